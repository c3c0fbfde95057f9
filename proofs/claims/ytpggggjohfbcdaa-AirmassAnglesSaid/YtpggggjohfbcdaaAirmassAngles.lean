/- AirmassAngles returns true at every input: at two moments with the same sidereal angle a tile has the same height. No conditions. -/
import Derived.Test.YtpggggjohfbcdaaRows
import Derived.Test.YtpggggjohfbcdaaA8
import Derived.ProofKit
import Derived.OpenShut
import Derived.ChangeOld
import Derived.Below
import Derived.Lib.SmallJoins
namespace Go.Proofs.Ytpggggjohfbcdaa.airmassAngles
open Go.ChangeShapes Go.WideShapes Go.ChangeAt Go.RowKit Go.Joins
set_option linter.unusedVariables false

theorem Sid_is {m v : Int} (hv : sid m = v) (w : World) (h0 : 0 ≤ m) (h1 : m < 38400) : Calls Try.prog 21 #[.int .i64 m] w fun e w' => e = .returned (.tuple #[.int .i64 v, .int .i64 0]) ∧ w = w' := by
  subst hv; exact Sidereal_ok m w h0 h1
theorem ht_sid (s t m n : Int) (h : sid m = sid n) : ht s t m = ht s t n := by unfold ht hr; rw [h]
theorem Height_both (s t m n : Int) (h : sid m = sid n) (h0 : 0 ≤ m) (h1 : m < 38400) (h2 : 0 ≤ n) (h3 : n < 38400) : ∃ v x : Int,
    Hid (∀ w, Calls Try.prog 13 #[.int .i64 s, .int .i64 t, .int .i64 m] w fun r w' => r = .returned (.tuple #[.int .i64 v, .int .i64 x]) ∧ w = w') ∧
    Hid (∀ w, Calls Try.prog 13 #[.int .i64 s, .int .i64 t, .int .i64 n] w fun r w' => r = .returned (.tuple #[.int .i64 v, .int .i64 x]) ∧ w = w') := by
  by_cases k : 0 ≤ s ∧ s < 16 ∧ 0 ≤ t ∧ t < 512
  · obtain ⟨k0, k1, k2, k3⟩ := k
    exact ⟨ht s t n, 0, fun w => by have := Height_ok s t m w h0 h1 k0 k1 k2 k3; rwa [ht_sid s t m n h] at this, fun w => Height_ok s t n w h2 h3 k0 k1 k2 k3⟩
  · exact ⟨0, 1, fun w => Height_err s t m w (by omega), fun w => Height_err s t n w (by omega)⟩

set_option maxHeartbeats 2000000 in
set_option maxRecDepth 100000 in
theorem walk_one (s t m n : Int) (w : World) (h : ¬ (0 ≤ m ∧ m < 38400)) :
    Calls Try.prog 6 #[.int .i64 s, .int .i64 t, .int .i64 m, .int .i64 n] w fun e w' => e = .returned (.bool true) ∧ Below w.heap.size w w' := by
  have H := hid h
  clear h
  by_cases k : 0 ≤ n ∧ n < 38400
  · obtain ⟨k0, k1⟩ := k
    go_enter Try.func6, Try.ntmps6
    go_wp2_with fail
    refine (head_any _).mono ?_
    rintro e w1 ⟨rfl, hb1⟩
    go_wp2_with fail
    refine (Sidereal_err _ _ H.out).mono ?_
    rintro e w2 ⟨rfl, rfl⟩
    go_wp2_with fail
    refine (Sidereal_ok _ _ k0 k1).mono ?_
    rintro e w2 ⟨rfl, rfl⟩
    go_wp2
    go_ret
    exact ⟨rfl, hb1⟩
  · have K := hid k
    clear k
    go_enter Try.func6, Try.ntmps6
    go_wp2_with fail
    refine (head_any _).mono ?_
    rintro e w1 ⟨rfl, hb1⟩
    go_wp2_with fail
    refine (Sidereal_err _ _ H.out).mono ?_
    rintro e w2 ⟨rfl, rfl⟩
    go_wp2_with fail
    refine (Sidereal_err _ _ K.out).mono ?_
    rintro e w2 ⟨rfl, rfl⟩
    go_wp2
    go_ret
    exact ⟨rfl, hb1⟩
set_option maxHeartbeats 2000000 in
set_option maxRecDepth 100000 in
theorem walk_two (s t m n : Int) (w : World) (h0 : 0 ≤ m) (h1 : m < 38400) (h : ¬ (0 ≤ n ∧ n < 38400)) :
    Calls Try.prog 6 #[.int .i64 s, .int .i64 t, .int .i64 m, .int .i64 n] w fun e w' => e = .returned (.bool true) ∧ Below w.heap.size w w' := by
  have H := hid h
  clear h
  go_enter Try.func6, Try.ntmps6
  go_wp2_with fail
  refine (head_any _).mono ?_
  rintro e w1 ⟨rfl, hb1⟩
  go_wp2_with fail
  refine (Sidereal_ok _ _ h0 h1).mono ?_
  rintro e w2 ⟨rfl, rfl⟩
  go_wp2_with fail
  refine (Sidereal_err _ _ H.out).mono ?_
  rintro e w2 ⟨rfl, rfl⟩
  go_wp2
  go_ret
  exact ⟨rfl, hb1⟩
set_option maxHeartbeats 2000000 in
set_option maxRecDepth 100000 in
theorem walk_three (s t m n : Int) (w : World) (h0 : 0 ≤ m) (h1 : m < 38400) (h2 : 0 ≤ n) (h3 : n < 38400) :
    Calls Try.prog 6 #[.int .i64 s, .int .i64 t, .int .i64 m, .int .i64 n] w fun e w' => e = .returned (.bool true) ∧ Below w.heap.size w w' := by
  obtain ⟨x, hx⟩ : ∃ x, sid m = x := ⟨_, rfl⟩
  obtain ⟨y, hy⟩ : ∃ y, sid n = y := ⟨_, rfl⟩
  have X := hid hx
  have Y := hid hy
  clear hx hy
  by_cases d : x = y
  · subst d
    obtain ⟨v, q, A, B⟩ := Height_both s t m n (X.out.trans Y.out.symm) h0 h1 h2 h3
    go_enter Try.func6, Try.ntmps6
    go_wp2_with fail
    refine (head_any _).mono ?_
    rintro e w1 ⟨rfl, hb1⟩
    go_wp2_with fail
    refine (Sid_is X.out _ h0 h1).mono ?_
    rintro e w2 ⟨rfl, rfl⟩
    go_wp2_with fail
    refine (Sid_is Y.out _ h2 h3).mono ?_
    rintro e w2 ⟨rfl, rfl⟩
    go_wp2_with fail
    refine (A.out _).mono ?_
    rintro e w2 ⟨rfl, rfl⟩
    go_wp2_with fail
    refine (B.out _).mono ?_
    rintro e w2 ⟨rfl, rfl⟩
    go_wp2
    go_ret
    exact ⟨rfl, hb1⟩
  · have d2 : (x == y) = false := by simpa using d
    go_enter Try.func6, Try.ntmps6
    go_wp2_with fail
    refine (head_any _).mono ?_
    rintro e w1 ⟨rfl, hb1⟩
    go_wp2_with fail
    refine (Sid_is X.out _ h0 h1).mono ?_
    rintro e w2 ⟨rfl, rfl⟩
    go_wp2_with fail
    refine (Sid_is Y.out _ h2 h3).mono ?_
    rintro e w2 ⟨rfl, rfl⟩
    go_wp2
    go_ret
    exact ⟨rfl, hb1⟩
theorem walk (a0 : Int) (_w0 : (Lit.int .i64 a0).wf = true) (a1 : Int) (_w1 : (Lit.int .i64 a1).wf = true) (a2 : Int) (_w2 : (Lit.int .i64 a2).wf = true) (a3 : Int) (_w3 : (Lit.int .i64 a3).wf = true) (w : World) :
    Calls Try.prog 6 #[.int .i64 a0, .int .i64 a1, .int .i64 a2, .int .i64 a3] w fun e w' => e = .returned (.bool true) ∧ Below w.heap.size w w' := by
  by_cases h : 0 ≤ a2 ∧ a2 < 38400
  · by_cases k : 0 ≤ a3 ∧ a3 < 38400
    · exact walk_three a0 a1 a2 a3 w h.1 h.2 k.1 k.2
    · exact walk_two a0 a1 a2 a3 w h.1 h.2 k
  · exact walk_one a0 a1 a2 a3 w h

theorem own : ownKnob Try.prog.godebug = none := by kernel_rfl
theorem laidOut : laidOutB Try.prog = true := by kernel_rfl
set_option maxRecDepth 100000 in
theorem lifted (os : Os) (started : os.Started) (H : Type) (enc : TypeId × Value → H) :
    ReturnsInHanded {} Try.checked os 6 .any (Rows.airmassAnglesSpec.pre6 enc Try.prog Try.f6 Rows.airmassAnglesRow.domain false) (Rows.airmassAnglesSpec.post enc Try.prog Try.f6 false true false false) := by
  refine returnsInHanded_of_change (C := Try.checked) own started (by kernel_rfl) Try.func6
    (ChangeSpec.witness6 (enc := enc) (C := Try.checked) false ⟨#[], #[.int .i64 0, .int .i64 0, .int .i64 0, .int .i64 0], []⟩ 8 (by kernel_rfl) (by kernel_rfl) (by kernel_rfl) (by kernel_rfl)) ?_
  intro W base args ds gs before hval0 hW hcnd _
  have hval : ∀ (j : Nat) t v, Try.f6.params[j]? = some t → args[j]? = some v → Value.okWide Try.prog W .any base t v := hval0
  have hW' := hW
  obtain ⟨p, q, hA0, hV, rfl, hfz, hnd⟩ := hW
  have hA : DataW.TrodAll enc Try.prog W 0 (fun _ => true) true Try.f6.params.toList args.toList ds p := hA0
  rw [Try.params6] at hA hval
  obtain ⟨v0, vs0, d0, ds0, p0, q0, hargs, rfl, rfl, h0, r0⟩ := trodAll_cons hA
  obtain ⟨v1, vs1, d1, ds1, p1, q1, rfl, rfl, rfl, h1, r1⟩ := trodAll_cons r0
  obtain ⟨v2, vs2, d2, ds2, p2, q2, rfl, rfl, rfl, h2, r2⟩ := trodAll_cons r1
  obtain ⟨v3, vs3, d3, ds3, p3, q3, rfl, rfl, rfl, h3, r3⟩ := trodAll_cons r2
  obtain ⟨rfl, rfl, rfl⟩ := trodAll_nil r3
  obtain rfl : args = #[v0, v1, v2, v3] := by cases args; simp_all
  obtain ⟨rfl, rfl⟩ := trodVars_none hV
  obtain ⟨a0, rfl, rfl, rfl, w0⟩ := open_int Try.underlying3 (hval 0 3 v0 rfl rfl) h0
  obtain ⟨a1, rfl, rfl, rfl, w1⟩ := open_int Try.underlying3 (hval 1 3 v1 rfl rfl) h1
  obtain ⟨a2, rfl, rfl, rfl, w2⟩ := open_int Try.underlying3 (hval 2 3 v2 rfl rfl) h2
  obtain ⟨a3, rfl, rfl, rfl, w3⟩ := open_int Try.underlying3 (hval 3 3 v3 rfl rfl) h3
  clear hA0 hval0
  refine (walk a0 w0 a1 w1 a2 w2 a3 w3 W).mono fun e W' ⟨he, bel⟩ => ?_
  subst he
  exact ⟨_, rfl, _, _, _, [], _, [], hW', trodAll_mk1 (shut_bool Try.underlying4 _), (trodAll_cons_mk (shut_int Try.underlying3 w0) (trodAll_cons_mk (shut_int Try.underlying3 w1) (trodAll_cons_mk (shut_int Try.underlying3 w2) (trodAll_cons_mk (shut_int Try.underlying3 w3) trodAll_mk0)))), rfl, bel.frame _, fun h => by cases h⟩

theorem over : Rows.airmassAnglesRow.holds Try.pinned (OpenSpec.ofChange Rows.airmassAnglesSpec) :=
  OpenClaim.holds_of_wide 6 Try.f6 rfl rfl rfl rfl rfl rfl rfl ⟨rfl, rfl, rfl, rfl, rfl⟩ rfl rfl rfl rfl rfl (by kernel_rfl) Try.func6 (by kernel_rfl)
    (of_decide_eq_true (by kernel_rfl)) (by unfold Func.isWrapper; first | (rw [if_pos (by decide +kernel)]; kernel_rfl) | (rw [if_neg (by decide +kernel)]; exact ⟨rfl, rfl⟩))
    (fun os started H enc _ => lifted os started H enc)
theorem proved : Rows.AirmassAnglesSaid := over
#print axioms proved
end Go.Proofs.Ytpggggjohfbcdaa.airmassAngles
