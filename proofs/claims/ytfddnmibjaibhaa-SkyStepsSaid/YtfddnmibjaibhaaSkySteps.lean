/- SkySteps returns true at every input: from a tile a neighbour is one step nearer to any other tile, and none is nearer by more. No conditions. -/
import Derived.Test.YtfddnmibjaibhaaRows
import Derived.Test.YtfddnmibjaibhaaS4
import Derived.ProofKit
import Derived.OpenShut
import Derived.ChangeOld
import Derived.Below
import Derived.Lib.SmallJoins
namespace Go.Proofs.Ytfddnmibjaibhaa.skySteps
open Go.ChangeShapes Go.WideShapes Go.ChangeAt Go.RowKit Go.Joins
set_option linter.unusedVariables false

theorem mem_near {a r : Int} {k i : Nat} : i ∈ near a r k ↔ i < k ∧ dist a i ≤ r := by unfold near; simp
set_option maxHeartbeats 2000000 in
set_option maxRecDepth 100000 in
theorem walk (a0 : Int) (w0 : (Lit.int .u16 a0).wf = true) (a1 : Int) (w1 : (Lit.int .u16 a1).wf = true) (w : World) :
    Calls Try.prog 8 #[.int .u16 a0, .int .u16 a1] w fun e w' => e = .returned (.bool true) ∧ Below w.heap.size w w' := by
  have b0 := bounds_u16 w0
  have b1 := bounds_u16 w1
  clear w0 w1
  obtain ⟨d, hd⟩ : ∃ d, dist (a0 % 512) (a1 % 512) = d := ⟨_, rfl⟩
  have f1 := dist_bd (a0 % 512) (a1 % 512) (by omega) (by omega) (by omega) (by omega)
  rw [hd] at f1
  have HD := hid hd
  clear hd
  obtain ⟨L, hL⟩ : ∃ L : List Int, (near (a0 % 512) 1 512).map (fun i : Nat => (i : Int)) = L := ⟨_, rfl⟩
  have hLm : ∀ x, x ∈ L ↔ (0 ≤ x ∧ x < 512 ∧ dist (a0 % 512) x ≤ 1) := by
    intro x
    rw [← hL, List.mem_map]
    constructor
    · rintro ⟨i, hi, rfl⟩; have := mem_near.1 hi; omega
    · rintro ⟨h1, h2, h3⟩
      exact ⟨x.toNat, mem_near.2 ⟨by omega, by rw [Int.toNat_of_nonneg h1]; exact h3⟩, Int.toNat_of_nonneg h1⟩
  have hLl : L.length ≤ 512 := by rw [← hL, List.length_map]; exact near_le _ _ _
  have HLM := hid hLm
  clear hLm
  go_enter Try.func8, Try.ntmps8
  go_wp2_with fail
  refine (head_any _).mono ?_
  rintro e w1 ⟨rfl, hb1⟩
  go_wp2_with fail
  refine (Distance_is HD.out _ (by omega) (by omega) (by omega) (by omega)).mono ?_
  rintro e w2 ⟨rfl, hb2⟩
  go_wp2_with fail
  refine (Near_ok _ 1 _ (by omega) (by omega) (by omega) (by omega)).mono ?_
  rintro e w3 ⟨v, rfl, hown, hb3⟩
  rw [nv_eq, hL] at hown
  obtain ⟨hn, A, c, rfl, hR⟩ := own_shape hown
  have HB := hid (bl (bl hb1 hb2) hb3)
  have HN := hid hn
  have HL := hid hL
  clear hown hb1 hb2 hb3 hn hL
  rw [HN.out]
  obtain ⟨n, hn⟩ : ∃ n, n = L.length := ⟨_, rfl⟩
  rw [← hn] at hLl ⊢
  have HN2 := hid hn
  clear hn HN
  have hne : ¬ L = [] := fun h => by
    have := (HLM.out (a0 % 512)).2 ⟨by omega, by omega, by rw [(dist_zero _ _).2 rfl]; omega⟩
    rw [h] at this; cases this
  rcases hR with hR | ⟨b, rfl, hlb, hcell⟩
  · exact absurd hR hne
  rw [← HN2.out] at hcell
  have HC := hid hcell
  clear hcell hne
  go_wp2_with fail
  go_loopw [12, 13] (fun m i wr => ∃ (k : Nat) (q : Int), k ≤ n ∧ i = .int .i64 k ∧ m = .int .i64 q ∧ 0 ≤ q ∧ q ≤ d ∧ d - 1 ≤ q ∧ Hid (∀ x ∈ L.take k, q ≤ dist x (a1 % 512)) ∧ Below w3.heap.size w3 wr)
    (fun _ i _ => n - (intOf i).toNat)
  case atStart => exact ⟨0, d, Nat.zero_le _, rfl, rfl, by omega, by omega, by omega, by simp [Hid], Below.refl _ _⟩
  case round =>
    obtain ⟨k, q, hk, rfl, rfl, hq0, hq1, hq2, hall, hbel⟩ := hrel
    by_cases hlt : k < n
    · have hkl : k < L.length := by rw [← HN2.out]; exact hlt
      have hcx : wr.cell? ⟨b, k, none⟩ = some (.int .i64 (L[k]?.getD 0)) := (hbel.cell hlb).trans (HC.out k hlt)
      rw [List.getElem?_eq_getElem hkl] at hcx
      simp only [Option.getD_some] at hcx
      obtain ⟨x, hx⟩ : ∃ x, L[k] = x := ⟨_, rfl⟩
      rw [hx] at hcx
      have hxm := (HLM.out x).1 (hx ▸ List.getElem_mem hkl)
      obtain ⟨hx0, hx1, hx2⟩ := hxm
      obtain ⟨dx, hdx⟩ : ∃ dx, dist x (a1 % 512) = dx := ⟨_, rfl⟩
      have hdb := dist_bd x (a1 % 512) hx0 hx1 (by omega) (by omega)
      have hst := step_least (a0 % 512) (a1 % 512) x hx2
      rw [HD.out, hdx] at hst
      rw [hdx] at hdb
      have HX := hid hx
      have HDX := hid hdx
      have HX2 := hid hx2
      clear hx hdx hx2
      go_wp2_with fail
      refine (Distance_is HDX.out _ hx0 hx1 (by omega) (by omega)).mono ?_
      rintro e w5 ⟨rfl, hb5⟩
      have hb6 := hbel.trans (hb5.mono hbel.size)
      have hall' : ∀ q', q' ≤ q → q' ≤ dx → Hid (∀ x ∈ L.take (k + 1), q' ≤ dist x (a1 % 512)) := by
        intro q' h1 h2 y hy
        rw [List.take_succ_eq_append_getElem hkl, List.mem_append] at hy
        rcases hy with hy | hy
        · have := hall.out y hy; omega
        · have : y = x := by rw [HX.out] at hy; simpa using hy
          rw [this, HDX.out]; exact h2
      have HALL := hid hall'
      clear hall' hbel hall
      go_wp2
      all_goals
        go_roundw
        case rel => exact ⟨k + 1, _, by omega, by go_num, rfl, by omega, by omega, by omega, HALL.out _ (by omega) (by omega), hb6⟩
        case measure => simp [intOf]; omega
    · obtain rfl : k = n := by omega
      have hq : (d = 0 ∧ q = 0) ∨ (0 < d ∧ q = d - 1) := by
        by_cases h : d = 0
        · exact .inl ⟨h, by omega⟩
        · refine .inr ⟨by omega, ?_⟩
          obtain ⟨y, hy0, hy1, hy2, hy3⟩ := step_ok (a0 % 512) (a1 % 512) (by omega) (by omega) (by omega) (by omega) (by rw [HD.out]; omega)
          have := hall.out y (by rw [List.take_of_length_le (by rw [HN2.out]; exact Nat.le_refl _)]; exact (HLM.out y).2 ⟨hy0, hy1, hy2⟩)
          rw [hy3, HD.out] at this
          omega
      clear hall
      rcases hq with ⟨rfl, rfl⟩ | ⟨h1, rfl⟩
      · go_wp2
        go_ret
        exact ⟨rfl, bl HB.out hbel⟩
      · have h2 : ¬ d = 0 := by omega
        have h3 : (d == 0) = false := by simpa using h2
        go_wp2
        go_ret
        exact ⟨rfl, bl HB.out hbel⟩

theorem own : ownKnob Try.prog.godebug = none := by kernel_rfl
theorem laidOut : laidOutB Try.prog = true := by kernel_rfl
set_option maxRecDepth 100000 in
theorem lifted (os : Os) (started : os.Started) (H : Type) (enc : TypeId × Value → H) :
    ReturnsInHanded {} Try.checked os 8 .any (Rows.skyStepsSpec.pre6 enc Try.prog Try.f8 Rows.skyStepsRow.domain false) (Rows.skyStepsSpec.post enc Try.prog Try.f8 false true false false) := by
  refine returnsInHanded_of_change (C := Try.checked) own started (by kernel_rfl) Try.func8
    (ChangeSpec.witness6 (enc := enc) (C := Try.checked) false ⟨#[], #[.int .u16 0, .int .u16 0], []⟩ 8 (by kernel_rfl) (by kernel_rfl) (by kernel_rfl) (by kernel_rfl)) ?_
  intro W base args ds gs before hval0 hW hcnd _
  have hval : ∀ (j : Nat) t v, Try.f8.params[j]? = some t → args[j]? = some v → Value.okWide Try.prog W .any base t v := hval0
  have hW' := hW
  obtain ⟨p, q, hA0, hV, rfl, hfz, hnd⟩ := hW
  have hA : DataW.TrodAll enc Try.prog W 0 (fun _ => true) true Try.f8.params.toList args.toList ds p := hA0
  rw [Try.params8] at hA hval
  obtain ⟨v0, vs0, d0, ds0, p0, q0, hargs, rfl, rfl, h0, r0⟩ := trodAll_cons hA
  obtain ⟨v1, vs1, d1, ds1, p1, q1, rfl, rfl, rfl, h1, r1⟩ := trodAll_cons r0
  obtain ⟨rfl, rfl, rfl⟩ := trodAll_nil r1
  obtain rfl : args = #[v0, v1] := by cases args; simp_all
  obtain ⟨rfl, rfl⟩ := trodVars_none hV
  obtain ⟨a0, rfl, rfl, rfl, w0⟩ := open_int Try.underlying36 (hval 0 36 v0 rfl rfl) h0
  obtain ⟨a1, rfl, rfl, rfl, w1⟩ := open_int Try.underlying36 (hval 1 36 v1 rfl rfl) h1
  clear hA0 hval0
  refine (walk a0 w0 a1 w1 W).mono fun e W' ⟨he, bel⟩ => ?_
  subst he
  exact ⟨_, rfl, _, _, _, [], _, [], hW', trodAll_mk1 (shut_bool Try.underlying4 _), (trodAll_cons_mk (shut_int Try.underlying36 w0) (trodAll_cons_mk (shut_int Try.underlying36 w1) trodAll_mk0)), rfl, bel.frame _, fun h => by cases h⟩

theorem over : Rows.skyStepsRow.holds Try.pinned (OpenSpec.ofChange Rows.skyStepsSpec) :=
  OpenClaim.holds_of_wide 8 Try.f8 rfl rfl rfl rfl rfl rfl rfl ⟨rfl, rfl, rfl, rfl, rfl⟩ rfl rfl rfl rfl rfl (by kernel_rfl) Try.func8 (by kernel_rfl)
    (of_decide_eq_true (by kernel_rfl)) (by unfold Func.isWrapper; first | (rw [if_pos (by decide +kernel)]; kernel_rfl) | (rw [if_neg (by decide +kernel)]; exact ⟨rfl, rfl⟩))
    (fun os started H enc _ => lifted os started H enc)
theorem proved : Rows.SkyStepsSaid := over
#print axioms proved
end Go.Proofs.Ytfddnmibjaibhaa.skySteps
