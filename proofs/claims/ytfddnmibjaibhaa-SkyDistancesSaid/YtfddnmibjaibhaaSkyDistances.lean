/- SkyDistances returns true at every input: distances of tiles are symmetric, 0 just for equal tiles, at most 16, obey the triangle inequality, and are unchanged when both tiles are moved around the sky. No conditions. -/
import Derived.Test.YtfddnmibjaibhaaRows
import Derived.Test.YtfddnmibjaibhaaS4
import Derived.ProofKit
import Derived.OpenShut
import Derived.ChangeOld
import Derived.Below
import Derived.Lib.SmallJoins
namespace Go.Proofs.Ytfddnmibjaibhaa.skyDistances
open Go.ChangeShapes Go.WideShapes Go.ChangeAt Go.RowKit Go.Joins
set_option linter.unusedVariables false

set_option maxHeartbeats 4000000 in
set_option maxRecDepth 100000 in
theorem walk (a0 : Int) (w0 : (Lit.int .u16 a0).wf = true) (a1 : Int) (w1 : (Lit.int .u16 a1).wf = true) (a2 : Int) (w2 : (Lit.int .u16 a2).wf = true) (a3 : Int) (w3 : (Lit.int .u8 a3).wf = true) (w : World) :
    Calls Try.prog 5 #[.int .u16 a0, .int .u16 a1, .int .u16 a2, .int .u8 a3] w fun e w' => e = .returned (.bool true) ∧ Below w.heap.size w w' := by
  have b0 := bounds_u16 w0
  have b1 := bounds_u16 w1
  have b2 := bounds_u16 w2
  have b3 := bounds_u8 w3
  clear w0 w1 w2 w3
  obtain ⟨ab, hab⟩ : ∃ d, dist (a0 % 512) (a1 % 512) = d := ⟨_, rfl⟩
  obtain ⟨ac, hac⟩ : ∃ d, dist (a0 % 512) (a2 % 512) = d := ⟨_, rfl⟩
  obtain ⟨cb, hcb⟩ : ∃ d, dist (a2 % 512) (a1 % 512) = d := ⟨_, rfl⟩
  have f1 := dist_bd (a0 % 512) (a1 % 512) (by omega) (by omega) (by omega) (by omega)
  have f2 := dist_bd (a0 % 512) (a2 % 512) (by omega) (by omega) (by omega) (by omega)
  have f3 := dist_bd (a2 % 512) (a1 % 512) (by omega) (by omega) (by omega) (by omega)
  have f4 := dist_tri (a0 % 512) (a1 % 512) (a2 % 512)
  have f5 := dist_zero (a0 % 512) (a1 % 512)
  rw [hab] at f1 f4 f5
  rw [hac] at f2 f4
  rw [hcb] at f3 f4
  have HAB := hid hab
  have HAC := hid hac
  have HCB := hid hcb
  have HF5 := hid f5
  clear hab hac hcb f5
  go_enter Try.func5, Try.ntmps5
  go_wp2_with fail
  refine (head_any _).mono ?_
  rintro e w1 ⟨rfl, hb1⟩
  have cby : w1.cell? ⟨w.heap.size, 0, none⟩ = some (.int .u8 a3) := by rw [hb1.cell (by simp)]; simp
  have hz1 : w.heap.size < w1.heap.size := by have := hb1.size; simp at this; omega
  have hB1 := bl (ba (Below.refl _ _) _) hb1
  clear hb1
  go_wp2_with fail
  refine (Distance_is HAB.out _ (by omega) (by omega) (by omega) (by omega)).mono ?_
  rintro e w2 ⟨rfl, hb2⟩
  have cby2 : w2.cell? ⟨w.heap.size, 0, none⟩ = some (.int .u8 a3) := (hb2.cell hz1).trans cby
  have hz2 : w.heap.size < w2.heap.size := Nat.lt_of_lt_of_le hz1 hb2.size
  have hB2 := bl hB1 hb2
  clear hb2 hB1 cby hz1
  go_wp2_with fail
  refine (Distance_is (d := ab) ((dist_symm _ _).trans HAB.out) _ (by omega) (by omega) (by omega) (by omega)).mono ?_
  rintro e w3 ⟨rfl, hb3⟩
  have cby3 : w3.cell? ⟨w.heap.size, 0, none⟩ = some (.int .u8 a3) := (hb3.cell hz2).trans cby2
  have hz3 : w.heap.size < w3.heap.size := Nat.lt_of_lt_of_le hz2 hb3.size
  have hB3 := bl hB2 hb3
  clear hb3 hB2 cby2 hz2
  go_wp2_with fail
  refine (Distance_is HAC.out _ (by omega) (by omega) (by omega) (by omega)).mono ?_
  rintro e w4 ⟨rfl, hb4⟩
  have cby4 : w4.cell? ⟨w.heap.size, 0, none⟩ = some (.int .u8 a3) := (hb4.cell hz3).trans cby3
  have hz4 : w.heap.size < w4.heap.size := Nat.lt_of_lt_of_le hz3 hb4.size
  have hB4 := bl hB3 hb4
  clear hb4 hB3 cby3 hz3
  go_wp2_with fail
  refine (Distance_is HCB.out _ (by omega) (by omega) (by omega) (by omega)).mono ?_
  rintro e w5 ⟨rfl, hb5⟩
  have cby5 : w5.cell? ⟨w.heap.size, 0, none⟩ = some (.int .u8 a3) := (hb5.cell hz4).trans cby4
  have hB5 := bl hB4 hb5
  clear hb5 hB4 cby4 hz4
  go_wp2_with fail
  refine (moved_any _ _ _ _ (by omega) (by omega) b3.1 (by omega) cby5).mono ?_
  rintro e w6 ⟨rfl, rfl⟩
  go_wp2_with fail
  refine (moved_any _ _ _ _ (by omega) (by omega) b3.1 (by omega) cby5).mono ?_
  rintro e w6 ⟨rfl, rfl⟩
  go_wp2_with fail
  have hmv : dist (a0 % 512 / 32 * 32 + (a0 + a3) % 32) (a1 % 512 / 32 * 32 + (a1 + a3) % 32) = ab := by
    rw [show a0 % 512 / 32 * 32 + (a0 + a3) % 32 = a0 % 512 / 32 * 32 + (a0 % 512 % 32 + a3) % 32 from by omega, show a1 % 512 / 32 * 32 + (a1 + a3) % 32 = a1 % 512 / 32 * 32 + (a1 % 512 % 32 + a3) % 32 from by omega, dist_moved]
    exact HAB.out
  refine (Distance_is hmv _ (by omega) (by omega) (by omega) (by omega)).mono ?_
  clear hmv
  rintro e w7 ⟨rfl, hb7⟩
  have hB7 := bl hB5 hb7
  clear hb7 hB5 cby5
  by_cases he : a0 % 512 = a1 % 512
  · have hz : ab = 0 := HF5.out.2 he
    subst hz
    go_wp2
    go_ret
    exact ⟨rfl, hB7⟩
  · have hz : ¬ ab = 0 := fun h => he (HF5.out.1 h)
    have e1 : (ab == 0) = false := by simpa using hz
    have e2 : (a0 % 512 == a1 % 512) = false := by simpa using he
    go_wp2
    go_ret
    exact ⟨rfl, hB7⟩

theorem own : ownKnob Try.prog.godebug = none := by kernel_rfl
theorem laidOut : laidOutB Try.prog = true := by kernel_rfl
set_option maxRecDepth 100000 in
theorem lifted (os : Os) (started : os.Started) (H : Type) (enc : TypeId × Value → H) :
    ReturnsInHanded {} Try.checked os 5 .any (Rows.skyDistancesSpec.pre6 enc Try.prog Try.f5 Rows.skyDistancesRow.domain false) (Rows.skyDistancesSpec.post enc Try.prog Try.f5 false true false false) := by
  refine returnsInHanded_of_change (C := Try.checked) own started (by kernel_rfl) Try.func5
    (ChangeSpec.witness6 (enc := enc) (C := Try.checked) false ⟨#[], #[.int .u16 0, .int .u16 0, .int .u16 0, .int .u8 0], []⟩ 8 (by kernel_rfl) (by kernel_rfl) (by kernel_rfl) (by kernel_rfl)) ?_
  intro W base args ds gs before hval0 hW hcnd _
  have hval : ∀ (j : Nat) t v, Try.f5.params[j]? = some t → args[j]? = some v → Value.okWide Try.prog W .any base t v := hval0
  have hW' := hW
  obtain ⟨p, q, hA0, hV, rfl, hfz, hnd⟩ := hW
  have hA : DataW.TrodAll enc Try.prog W 0 (fun _ => true) true Try.f5.params.toList args.toList ds p := hA0
  rw [Try.params5] at hA hval
  obtain ⟨v0, vs0, d0, ds0, p0, q0, hargs, rfl, rfl, h0, r0⟩ := trodAll_cons hA
  obtain ⟨v1, vs1, d1, ds1, p1, q1, rfl, rfl, rfl, h1, r1⟩ := trodAll_cons r0
  obtain ⟨v2, vs2, d2, ds2, p2, q2, rfl, rfl, rfl, h2, r2⟩ := trodAll_cons r1
  obtain ⟨v3, vs3, d3, ds3, p3, q3, rfl, rfl, rfl, h3, r3⟩ := trodAll_cons r2
  obtain ⟨rfl, rfl, rfl⟩ := trodAll_nil r3
  obtain rfl : args = #[v0, v1, v2, v3] := by cases args; simp_all
  obtain ⟨rfl, rfl⟩ := trodVars_none hV
  obtain ⟨a0, rfl, rfl, rfl, w0⟩ := open_int Try.underlying36 (hval 0 36 v0 rfl rfl) h0
  obtain ⟨a1, rfl, rfl, rfl, w1⟩ := open_int Try.underlying36 (hval 1 36 v1 rfl rfl) h1
  obtain ⟨a2, rfl, rfl, rfl, w2⟩ := open_int Try.underlying36 (hval 2 36 v2 rfl rfl) h2
  obtain ⟨a3, rfl, rfl, rfl, w3⟩ := open_int Try.underlying5 (hval 3 5 v3 rfl rfl) h3
  clear hA0 hval0
  refine (walk a0 w0 a1 w1 a2 w2 a3 w3 W).mono fun e W' ⟨he, bel⟩ => ?_
  subst he
  exact ⟨_, rfl, _, _, _, [], _, [], hW', trodAll_mk1 (shut_bool Try.underlying4 _), (trodAll_cons_mk (shut_int Try.underlying36 w0) (trodAll_cons_mk (shut_int Try.underlying36 w1) (trodAll_cons_mk (shut_int Try.underlying36 w2) (trodAll_cons_mk (shut_int Try.underlying5 w3) trodAll_mk0)))), rfl, bel.frame _, fun h => by cases h⟩

theorem over : Rows.skyDistancesRow.holds Try.pinned (OpenSpec.ofChange Rows.skyDistancesSpec) :=
  OpenClaim.holds_of_wide 5 Try.f5 rfl rfl rfl rfl rfl rfl rfl ⟨rfl, rfl, rfl, rfl, rfl⟩ rfl rfl rfl rfl rfl (by kernel_rfl) Try.func5 (by kernel_rfl)
    (of_decide_eq_true (by kernel_rfl)) (by unfold Func.isWrapper; first | (rw [if_pos (by decide +kernel)]; kernel_rfl) | (rw [if_neg (by decide +kernel)]; exact ⟨rfl, rfl⟩))
    (fun os started H enc _ => lifted os started H enc)
theorem proved : Rows.SkyDistancesSaid := over
#print axioms proved
end Go.Proofs.Ytfddnmibjaibhaa.skyDistances
