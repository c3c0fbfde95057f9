/- AirmassTransits returns true at every input: in each night there is a slot at which a column's hour angle lies from -30 to 30, and the height is then at least 891 less 50 times the difference of the bands. No conditions. -/
import Derived.Test.YtpggggjohfbcdaaRows
import Derived.Test.YtpggggjohfbcdaaA8
import Derived.ProofKit
import Derived.OpenShut
import Derived.ChangeOld
import Derived.Below
import Derived.Lib.SmallJoins
namespace Go.Proofs.Ytpggggjohfbcdaa.airmassTransits
open Go.ChangeShapes Go.WideShapes Go.ChangeAt Go.RowKit Go.Joins
set_option linter.unusedVariables false

theorem Hour_is {c m v : Int} (hv : hr c m = v) (w : World) (h0 : 0 ≤ m) (h1 : m < 38400) (h2 : 0 ≤ c) (h3 : c < 32) : Calls Try.prog 11 #[.int .i64 c, .int .i64 m] w fun e w' => e = .returned (.tuple #[.int .i64 v, .int .i64 0]) ∧ w = w' := by
  subst hv; exact Hour_ok c m w h0 h1 h2 h3
theorem lAbs_is {n v : Int} (hv : ab n = v) (w : World) (h0 : -1000000 ≤ n) (h1 : n ≤ 1000000) : Calls Try.prog 20 #[.int .i64 n] w fun e w' => e = .returned (.int .i64 v) ∧ w = w' := by
  subst hv; exact lAbs_any n w h0 h1
theorem Height_is {s t m v : Int} (hv : ht s t m = v) (w : World) (h0 : 0 ≤ m) (h1 : m < 38400) (h2 : 0 ≤ s) (h3 : s < 16) (h4 : 0 ≤ t) (h5 : t < 512) : Calls Try.prog 13 #[.int .i64 s, .int .i64 t, .int .i64 m] w fun e w' => e = .returned (.tuple #[.int .i64 v, .int .i64 0]) ∧ w = w' := by
  subst hv; exact Height_ok s t m w h0 h1 h2 h3 h4 h5
theorem sid_night (n j : Int) (h0 : 0 ≤ j) (h1 : j < 96) : sid (96 * n + j) = (60 * j + 16 * n) % 5760 := by
  have e1 : (96 * n + j) / 96 = n := by omega
  have e2 : (96 * n + j) % 96 = j := by omega
  unfold sid; rw [e1, e2]
theorem transit (c n : Int) : ∃ j : Nat, j < 96 ∧ ab (hr c (96 * n + (j : Int))) ≤ 30 := by
  obtain ⟨q, hq⟩ : ∃ q, (180 * c + 90 - 16 * n + 30) / 60 = q := ⟨_, rfl⟩
  refine ⟨(q % 96).toNat, by omega, ?_⟩
  rw [Int.toNat_of_nonneg (by omega)]
  obtain ⟨d, hd⟩ : ∃ d, 60 * q - (180 * c + 90 - 16 * n) = d := ⟨_, rfl⟩
  have hd0 : -30 ≤ d ∧ d ≤ 30 := by omega
  have e : hr c (96 * n + q % 96) = d := by
    unfold hr
    rw [sid_night _ _ (by omega) (by omega)]
    have h1 : (60 * (q % 96) + 16 * n) % 5760 = (60 * q + 16 * n) % 5760 := by omega
    rw [h1]
    omega
  rw [e]
  unfold ab; split <;> omega

set_option maxHeartbeats 2000000 in
set_option maxRecDepth 100000 in
theorem walk_ok (s t n : Int) (w : World) (h0 : 0 ≤ s) (h1 : s < 16) (h2 : 0 ≤ t) (h3 : t < 512) (h4 : 0 ≤ n) (h5 : n < 400) :
    Calls Try.prog 9 #[.int .i64 s, .int .i64 t, .int .i64 n] w fun e w' => e = .returned (.bool true) ∧ Below w.heap.size w w' := by
  have HT := hid (transit (t % 32) n)
  go_enter Try.func9, Try.ntmps9
  go_wp2_with fail
  refine (head_any _).mono ?_
  rintro e w1 ⟨rfl, hb1⟩
  go_wp2_with fail
  go_loop [8] (fun i => ∃ k : Nat, k ≤ 96 ∧ i = .int .i64 k ∧ Hid (∀ j : Nat, j < k → 30 < ab (hr (t % 32) (96 * n + (j : Int))))) (fun i => 96 - (intOf i).toNat)
  case atStart => exact ⟨0, Nat.zero_le _, rfl, fun j hj => by omega⟩
  case round =>
    obtain ⟨k, hk, rfl, hall⟩ := hrel
    by_cases hlt : k < 96
    · obtain ⟨h, hh⟩ : ∃ h, hr (t % 32) (96 * n + (k : Int)) = h := ⟨_, rfl⟩
      obtain ⟨u, hu⟩ : ∃ u, ab h = u := ⟨_, rfl⟩
      have bh := hr_bd (t % 32) (96 * n + (k : Int))
      rw [hh] at bh
      have HH := hid hh
      have HU := hid hu
      clear hh hu
      go_wp2_with fail
      refine (Hour_is HH.out _ (by omega) (by omega) (by omega) (by omega)).mono ?_
      rintro e w2 ⟨rfl, rfl⟩
      go_wp2_with fail
      refine (lAbs_is HU.out _ (by omega) (by omega)).mono ?_
      rintro e w2 ⟨rfl, rfl⟩
      by_cases hd : u ≤ 30
      · obtain ⟨p, hp⟩ : ∃ p, ab (t / 32 - s) = p := ⟨_, rfl⟩
        obtain ⟨a, ha⟩ : ∃ a, ht s t (96 * n + (k : Int)) = a := ⟨_, rfl⟩
        have bp := ab_bd (t / 32 - s) 15 (by omega) (by omega)
        rw [hp] at bp
        have bu : 0 ≤ u := by rw [← HU.out]; exact (ab_bd h 2880 (by omega) (by omega)).1
        have hge : 891 - 50 * p ≤ a := by
          have : a = 900 - 50 * p - 5 * u / 16 := by rw [← ha, ← hp, ← HU.out, ← HH.out]; rfl
          omega
        have HP := hid hp
        have HA := hid ha
        clear hp ha
        go_wp2_with fail
        refine (Height_is HA.out _ (by omega) (by omega) h0 h1 h2 h3).mono ?_
        rintro e w2 ⟨rfl, rfl⟩
        go_wp2_with fail
        refine (lAbs_is HP.out _ (by omega) (by omega)).mono ?_
        rintro e w2 ⟨rfl, rfl⟩
        go_wp2
        go_ret
        exact ⟨rfl, hb1⟩
      · have hall2 : Hid (∀ j : Nat, j < k + 1 → 30 < ab (hr (t % 32) (96 * n + (j : Int)))) := by
          intro j hj
          by_cases e : j = k
          · subst e; rw [HH.out, HU.out]; omega
          · exact hall.out j (by omega)
        clear hall
        go_wp2
        go_round
        case rel => exact ⟨k + 1, by omega, by go_num, hall2⟩
        case measure => simp [intOf]; omega
    · obtain ⟨j, hj, hjd⟩ := HT.out
      have := hall.out j (by omega)
      exact absurd hjd (by omega)
set_option maxHeartbeats 2000000 in
set_option maxRecDepth 100000 in
theorem walk_err (s t n : Int) (w : World) (h : ¬ (0 ≤ s ∧ s < 16 ∧ 0 ≤ t ∧ t < 512 ∧ 0 ≤ n ∧ n < 400)) :
    Calls Try.prog 9 #[.int .i64 s, .int .i64 t, .int .i64 n] w fun e w' => e = .returned (.bool true) ∧ Below w.heap.size w w' := by
  have hc : s < 0 ∨ (0 ≤ s ∧ 15 < s) ∨ (0 ≤ s ∧ s < 16 ∧ t < 0) ∨ (0 ≤ s ∧ s < 16 ∧ 0 ≤ t ∧ 511 < t) ∨ (0 ≤ s ∧ s < 16 ∧ 0 ≤ t ∧ t < 512 ∧ n < 0) ∨ (0 ≤ s ∧ s < 16 ∧ 0 ≤ t ∧ t < 512 ∧ 0 ≤ n ∧ 399 < n) := by omega
  clear h
  rcases hc with c | ⟨c0, c⟩ | ⟨c0, c1, c⟩ | ⟨c0, c1, c2, c⟩ | ⟨c0, c1, c2, c3, c⟩ | ⟨c0, c1, c2, c3, c4, c⟩
  all_goals
    go_enter Try.func9, Try.ntmps9
    go_wp2_with fail
    refine (head_any _).mono ?_
    rintro e w1 ⟨rfl, hb1⟩
    go_wp2
    go_ret
    exact ⟨rfl, hb1⟩
theorem walk (a0 : Int) (_w0 : (Lit.int .i64 a0).wf = true) (a1 : Int) (_w1 : (Lit.int .i64 a1).wf = true) (a2 : Int) (_w2 : (Lit.int .i64 a2).wf = true) (w : World) :
    Calls Try.prog 9 #[.int .i64 a0, .int .i64 a1, .int .i64 a2] w fun e w' => e = .returned (.bool true) ∧ Below w.heap.size w w' := by
  by_cases h : 0 ≤ a0 ∧ a0 < 16 ∧ 0 ≤ a1 ∧ a1 < 512 ∧ 0 ≤ a2 ∧ a2 < 400
  · obtain ⟨h0, h1, h2, h3, h4, h5⟩ := h
    exact walk_ok a0 a1 a2 w h0 h1 h2 h3 h4 h5
  · exact walk_err a0 a1 a2 w h

theorem own : ownKnob Try.prog.godebug = none := by kernel_rfl
theorem laidOut : laidOutB Try.prog = true := by kernel_rfl
set_option maxRecDepth 100000 in
theorem lifted (os : Os) (started : os.Started) (H : Type) (enc : TypeId × Value → H) :
    ReturnsInHanded {} Try.checked os 9 .any (Rows.airmassTransitsSpec.pre6 enc Try.prog Try.f9 Rows.airmassTransitsRow.domain false) (Rows.airmassTransitsSpec.post enc Try.prog Try.f9 false true false false) := by
  refine returnsInHanded_of_change (C := Try.checked) own started (by kernel_rfl) Try.func9
    (ChangeSpec.witness6 (enc := enc) (C := Try.checked) false ⟨#[], #[.int .i64 0, .int .i64 0, .int .i64 0], []⟩ 8 (by kernel_rfl) (by kernel_rfl) (by kernel_rfl) (by kernel_rfl)) ?_
  intro W base args ds gs before hval0 hW hcnd _
  have hval : ∀ (j : Nat) t v, Try.f9.params[j]? = some t → args[j]? = some v → Value.okWide Try.prog W .any base t v := hval0
  have hW' := hW
  obtain ⟨p, q, hA0, hV, rfl, hfz, hnd⟩ := hW
  have hA : DataW.TrodAll enc Try.prog W 0 (fun _ => true) true Try.f9.params.toList args.toList ds p := hA0
  rw [Try.params9] at hA hval
  obtain ⟨v0, vs0, d0, ds0, p0, q0, hargs, rfl, rfl, h0, r0⟩ := trodAll_cons hA
  obtain ⟨v1, vs1, d1, ds1, p1, q1, rfl, rfl, rfl, h1, r1⟩ := trodAll_cons r0
  obtain ⟨v2, vs2, d2, ds2, p2, q2, rfl, rfl, rfl, h2, r2⟩ := trodAll_cons r1
  obtain ⟨rfl, rfl, rfl⟩ := trodAll_nil r2
  obtain rfl : args = #[v0, v1, v2] := by cases args; simp_all
  obtain ⟨rfl, rfl⟩ := trodVars_none hV
  obtain ⟨a0, rfl, rfl, rfl, w0⟩ := open_int Try.underlying3 (hval 0 3 v0 rfl rfl) h0
  obtain ⟨a1, rfl, rfl, rfl, w1⟩ := open_int Try.underlying3 (hval 1 3 v1 rfl rfl) h1
  obtain ⟨a2, rfl, rfl, rfl, w2⟩ := open_int Try.underlying3 (hval 2 3 v2 rfl rfl) h2
  clear hA0 hval0
  refine (walk a0 w0 a1 w1 a2 w2 W).mono fun e W' ⟨he, bel⟩ => ?_
  subst he
  exact ⟨_, rfl, _, _, _, [], _, [], hW', trodAll_mk1 (shut_bool Try.underlying4 _), (trodAll_cons_mk (shut_int Try.underlying3 w0) (trodAll_cons_mk (shut_int Try.underlying3 w1) (trodAll_cons_mk (shut_int Try.underlying3 w2) trodAll_mk0))), rfl, bel.frame _, fun h => by cases h⟩

theorem over : Rows.airmassTransitsRow.holds Try.pinned (OpenSpec.ofChange Rows.airmassTransitsSpec) :=
  OpenClaim.holds_of_wide 9 Try.f9 rfl rfl rfl rfl rfl rfl rfl ⟨rfl, rfl, rfl, rfl, rfl⟩ rfl rfl rfl rfl rfl (by kernel_rfl) Try.func9 (by kernel_rfl)
    (of_decide_eq_true (by kernel_rfl)) (by unfold Func.isWrapper; first | (rw [if_pos (by decide +kernel)]; kernel_rfl) | (rw [if_neg (by decide +kernel)]; exact ⟨rfl, rfl⟩))
    (fun os started H enc _ => lifted os started H enc)
theorem proved : Rows.AirmassTransitsSaid := over
#print axioms proved
end Go.Proofs.Ytpggggjohfbcdaa.airmassTransits
