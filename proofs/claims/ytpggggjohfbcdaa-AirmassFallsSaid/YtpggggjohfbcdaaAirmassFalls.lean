/- AirmassFalls returns true at every input: the airmass lies from 1000 to 9000 exactly at heights from 100 to 900, and does not grow with the height. No conditions. -/
import Derived.Test.YtpggggjohfbcdaaRows
import Derived.Test.YtpggggjohfbcdaaA8
import Derived.ProofKit
import Derived.OpenShut
import Derived.ChangeOld
import Derived.Below
import Derived.Lib.SmallJoins
namespace Go.Proofs.Ytpggggjohfbcdaa.airmassFalls
open Go.ChangeShapes Go.WideShapes Go.ChangeAt Go.RowKit Go.Joins
set_option linter.unusedVariables false

theorem div_anti {N a b : Int} (hN : 0 ≤ N) (ha : 0 < a) (hab : a ≤ b) : N / b ≤ N / a := by
  rw [Int.le_ediv_iff_mul_le ha]
  have h1 : 0 ≤ N / b := Int.ediv_nonneg hN (by omega)
  exact Int.le_trans (Int.mul_le_mul_of_nonneg_left hab h1) (Int.ediv_mul_le N (by omega))
theorem am_hi {h : Int} (a : 900 < h) : amV h = 0 ∧ amE h = 1 := by unfold amV amE; rw [if_pos a, if_pos a]; exact ⟨rfl, rfl⟩
theorem am_lo {h : Int} (a : h < 100) : amV h = 0 ∧ amE h = 19 := by
  have b : ¬ 900 < h := by omega
  unfold amV amE; rw [if_neg b, if_neg b, if_pos a, if_pos a]; exact ⟨rfl, rfl⟩
theorem am_ok {h : Int} (a : 100 ≤ h) (b : h ≤ 900) : amV h = 900000 / h ∧ amE h = 0 := by
  have c : ¬ 900 < h := by omega
  have d : ¬ h < 100 := by omega
  unfold amV amE; rw [if_neg c, if_neg c, if_neg d, if_neg d]; exact ⟨rfl, rfl⟩
/-- what the two calls give: six cases -/
theorem six {lo hi : Int} (h : lo ≤ hi) : ∃ x y e f : Int, Hid (amV lo = x) ∧ Hid (amE lo = e) ∧ Hid (amV hi = y) ∧ Hid (amE hi = f) ∧
    ((900 < hi ∧ f = 1 ∧ e = 1) ∨ (900 < hi ∧ f = 1 ∧ e = 0) ∨ (900 < hi ∧ f = 1 ∧ e = 19) ∨ (100 ≤ hi ∧ hi ≤ 900 ∧ f = 0 ∧ e = 0 ∧ 1000 ≤ y ∧ y ≤ 9000 ∧ y ≤ x) ∨ (100 ≤ hi ∧ hi ≤ 900 ∧ f = 0 ∧ e = 19 ∧ 1000 ≤ y ∧ y ≤ 9000) ∨ (hi < 100 ∧ f = 19 ∧ e = 19)) := by
  refine ⟨_, _, _, _, rfl, rfl, rfl, rfl, ?_⟩
  by_cases a : 900 < hi
  · rw [(am_hi a).2]
    by_cases b : 900 < lo
    · rw [(am_hi b).2]; exact .inl ⟨a, rfl, rfl⟩
    · by_cases c : lo < 100
      · rw [(am_lo c).2]; exact .inr (.inr (.inl ⟨a, rfl, rfl⟩))
      · rw [(am_ok (by omega) (by omega)).2]; exact .inr (.inl ⟨a, rfl, rfl⟩)
  · by_cases d : hi < 100
    · rw [(am_lo d).2, (am_lo (h := lo) (by omega)).2]; exact .inr (.inr (.inr (.inr (.inr ⟨d, rfl, rfl⟩))))
    · have y1 : (1000 : Int) ≤ 900000 / hi := by rw [Int.le_ediv_iff_mul_le (by omega)]; omega
      have y2 : 900000 / hi ≤ 9000 := div_anti (N := 900000) (a := 100) (by omega) (by omega) (by omega)
      rw [(am_ok (h := hi) (by omega) (by omega)).2, (am_ok (h := hi) (by omega) (by omega)).1]
      by_cases c : lo < 100
      · rw [(am_lo c).2]; exact .inr (.inr (.inr (.inr (.inl ⟨by omega, by omega, rfl, rfl, y1, y2⟩))))
      · rw [(am_ok (h := lo) (by omega) (by omega)).2, (am_ok (h := lo) (by omega) (by omega)).1]
        exact .inr (.inr (.inr (.inl ⟨by omega, by omega, rfl, rfl, y1, y2, div_anti (by omega) (by omega) h⟩)))

set_option maxHeartbeats 4000000 in
set_option maxRecDepth 100000 in
theorem walk_lt (a0 a1 : Int) (h : a0 < a1) (w : World) :
    Calls Try.prog 7 #[.int .i64 a0, .int .i64 a1] w fun e w' => e = .returned (.bool true) ∧ Below w.heap.size w w' := by
  obtain ⟨x, y, e, f, X, E, Y, F, hc⟩ := six (Int.le_of_lt h)
  rcases hc with ⟨k1, rfl, rfl⟩ | ⟨k1, rfl, rfl⟩ | ⟨k1, rfl, rfl⟩ | ⟨k1, k2, rfl, rfl, k3, k4, k5⟩ | ⟨k1, k2, rfl, rfl, k3, k4⟩ | ⟨k1, rfl, rfl⟩
  all_goals
    go_enter Try.func7, Try.ntmps7
    go_wp2_with fail
    refine (head_any _).mono ?_
    rintro e w1 ⟨rfl, hb1⟩
    go_wp2_with fail
    refine (Airmass_is X.out E.out _).mono ?_
    rintro e w2 ⟨rfl, rfl⟩
    go_wp2_with fail
    refine (Airmass_is Y.out F.out _).mono ?_
    rintro e w2 ⟨rfl, rfl⟩
    go_wp2
    go_ret
    exact ⟨rfl, hb1⟩
set_option maxHeartbeats 4000000 in
set_option maxRecDepth 100000 in
theorem walk_gt (a0 a1 : Int) (h : a1 < a0) (w : World) :
    Calls Try.prog 7 #[.int .i64 a0, .int .i64 a1] w fun e w' => e = .returned (.bool true) ∧ Below w.heap.size w w' := by
  obtain ⟨x, y, e, f, X, E, Y, F, hc⟩ := six (Int.le_of_lt h)
  rcases hc with ⟨k1, rfl, rfl⟩ | ⟨k1, rfl, rfl⟩ | ⟨k1, rfl, rfl⟩ | ⟨k1, k2, rfl, rfl, k3, k4, k5⟩ | ⟨k1, k2, rfl, rfl, k3, k4⟩ | ⟨k1, rfl, rfl⟩
  all_goals
    go_enter Try.func7, Try.ntmps7
    go_wp2_with fail
    refine (head_any _).mono ?_
    rintro e w1 ⟨rfl, hb1⟩
    go_wp2_with fail
    refine (Airmass_is X.out E.out _).mono ?_
    rintro e w2 ⟨rfl, rfl⟩
    go_wp2_with fail
    refine (Airmass_is Y.out F.out _).mono ?_
    rintro e w2 ⟨rfl, rfl⟩
    go_wp2
    go_ret
    exact ⟨rfl, hb1⟩
set_option maxHeartbeats 4000000 in
set_option maxRecDepth 100000 in
theorem walk_eq (a0 : Int) (w : World) :
    Calls Try.prog 7 #[.int .i64 a0, .int .i64 a0] w fun e w' => e = .returned (.bool true) ∧ Below w.heap.size w w' := by
  obtain ⟨x, y, e, f, X, E, Y, F, hc⟩ := six (Int.le_refl a0)
  rcases hc with ⟨k1, rfl, rfl⟩ | ⟨k1, rfl, rfl⟩ | ⟨k1, rfl, rfl⟩ | ⟨k1, k2, rfl, rfl, k3, k4, k5⟩ | ⟨k1, k2, rfl, rfl, k3, k4⟩ | ⟨k1, rfl, rfl⟩
  all_goals
    go_enter Try.func7, Try.ntmps7
    go_wp2_with fail
    refine (head_any _).mono ?_
    rintro e w1 ⟨rfl, hb1⟩
    go_wp2_with fail
    refine (Airmass_is X.out E.out _).mono ?_
    rintro e w2 ⟨rfl, rfl⟩
    go_wp2_with fail
    refine (Airmass_is Y.out F.out _).mono ?_
    rintro e w2 ⟨rfl, rfl⟩
    go_wp2
    go_ret
    exact ⟨rfl, hb1⟩
theorem walk (a0 : Int) (_w0 : (Lit.int .i64 a0).wf = true) (a1 : Int) (_w1 : (Lit.int .i64 a1).wf = true) (w : World) :
    Calls Try.prog 7 #[.int .i64 a0, .int .i64 a1] w fun e w' => e = .returned (.bool true) ∧ Below w.heap.size w w' := by
  rcases Int.lt_trichotomy a0 a1 with h | h | h
  · exact walk_lt a0 a1 h w
  · subst h; exact walk_eq a0 w
  · exact walk_gt a0 a1 h w

theorem own : ownKnob Try.prog.godebug = none := by kernel_rfl
theorem laidOut : laidOutB Try.prog = true := by kernel_rfl
set_option maxRecDepth 100000 in
theorem lifted (os : Os) (started : os.Started) (H : Type) (enc : TypeId × Value → H) :
    ReturnsInHanded {} Try.checked os 7 .any (Rows.airmassFallsSpec.pre6 enc Try.prog Try.f7 Rows.airmassFallsRow.domain false) (Rows.airmassFallsSpec.post enc Try.prog Try.f7 false true false false) := by
  refine returnsInHanded_of_change (C := Try.checked) own started (by kernel_rfl) Try.func7
    (ChangeSpec.witness6 (enc := enc) (C := Try.checked) false ⟨#[], #[.int .i64 0, .int .i64 0], []⟩ 8 (by kernel_rfl) (by kernel_rfl) (by kernel_rfl) (by kernel_rfl)) ?_
  intro W base args ds gs before hval0 hW hcnd _
  have hval : ∀ (j : Nat) t v, Try.f7.params[j]? = some t → args[j]? = some v → Value.okWide Try.prog W .any base t v := hval0
  have hW' := hW
  obtain ⟨p, q, hA0, hV, rfl, hfz, hnd⟩ := hW
  have hA : DataW.TrodAll enc Try.prog W 0 (fun _ => true) true Try.f7.params.toList args.toList ds p := hA0
  rw [Try.params7] at hA hval
  obtain ⟨v0, vs0, d0, ds0, p0, q0, hargs, rfl, rfl, h0, r0⟩ := trodAll_cons hA
  obtain ⟨v1, vs1, d1, ds1, p1, q1, rfl, rfl, rfl, h1, r1⟩ := trodAll_cons r0
  obtain ⟨rfl, rfl, rfl⟩ := trodAll_nil r1
  obtain rfl : args = #[v0, v1] := by cases args; simp_all
  obtain ⟨rfl, rfl⟩ := trodVars_none hV
  obtain ⟨a0, rfl, rfl, rfl, w0⟩ := open_int Try.underlying3 (hval 0 3 v0 rfl rfl) h0
  obtain ⟨a1, rfl, rfl, rfl, w1⟩ := open_int Try.underlying3 (hval 1 3 v1 rfl rfl) h1
  clear hA0 hval0
  refine (walk a0 w0 a1 w1 W).mono fun e W' ⟨he, bel⟩ => ?_
  subst he
  exact ⟨_, rfl, _, _, _, [], _, [], hW', trodAll_mk1 (shut_bool Try.underlying4 _), (trodAll_cons_mk (shut_int Try.underlying3 w0) (trodAll_cons_mk (shut_int Try.underlying3 w1) trodAll_mk0)), rfl, bel.frame _, fun h => by cases h⟩

theorem over : Rows.airmassFallsRow.holds Try.pinned (OpenSpec.ofChange Rows.airmassFallsSpec) :=
  OpenClaim.holds_of_wide 7 Try.f7 rfl rfl rfl rfl rfl rfl rfl ⟨rfl, rfl, rfl, rfl, rfl⟩ rfl rfl rfl rfl rfl (by kernel_rfl) Try.func7 (by kernel_rfl)
    (of_decide_eq_true (by kernel_rfl)) (by unfold Func.isWrapper; first | (rw [if_pos (by decide +kernel)]; kernel_rfl) | (rw [if_neg (by decide +kernel)]; exact ⟨rfl, rfl⟩))
    (fun os started H enc _ => lifted os started H enc)
theorem proved : Rows.AirmassFallsSaid := over
#print axioms proved
end Go.Proofs.Ytpggggjohfbcdaa.airmassFalls
