/- AirmassMatchesReference returns true at every input: Hour, Height, Airmass and Windows answer as the reference does. No conditions. -/
import Derived.Test.YtpggggjohfbcdaaRows
import Derived.Test.YtpggggjohfbcdaaA8
import Derived.ProofKit
import Derived.OpenShut
import Derived.ChangeOld
import Derived.Below
import Derived.Lib.SmallJoins
namespace Go.Proofs.Ytpggggjohfbcdaa.airmassMatchesReference
open Go.ChangeShapes Go.WideShapes Go.ChangeAt Go.RowKit Go.Joins
set_option linter.unusedVariables false

theorem hour_both (c m : Int) : ∃ v x : Int, Hid (∀ w, Calls Try.prog 11 #[.int .i64 c, .int .i64 m] w fun r w' => r = .returned (.tuple #[.int .i64 v, .int .i64 x]) ∧ w = w') ∧
    Hid (∀ w, Calls Try.prog 12 #[.int .i64 c, .int .i64 m] w fun r w' => r = .returned (.tuple #[.int .i64 v, .int .i64 x]) ∧ w = w') := by
  by_cases h : 0 ≤ m ∧ m < 38400 ∧ 0 ≤ c ∧ c < 32
  · obtain ⟨h0, h1, h2, h3⟩ := h
    exact ⟨_, _, fun w => Hour_ok c m w h0 h1 h2 h3, fun w => rHour_ok c m w h0 h1 h2 h3⟩
  · exact ⟨_, _, fun w => Hour_err c m w h, fun w => rHour_err c m w h⟩
theorem height_both (s t m : Int) : ∃ v x : Int, Hid (∀ w, Calls Try.prog 13 #[.int .i64 s, .int .i64 t, .int .i64 m] w fun r w' => r = .returned (.tuple #[.int .i64 v, .int .i64 x]) ∧ w = w') ∧
    Hid (∀ w, Calls Try.prog 14 #[.int .i64 s, .int .i64 t, .int .i64 m] w fun r w' => r = .returned (.tuple #[.int .i64 v, .int .i64 x]) ∧ w = w') := by
  by_cases h : 0 ≤ m ∧ m < 38400 ∧ 0 ≤ s ∧ s < 16 ∧ 0 ≤ t ∧ t < 512
  · obtain ⟨h0, h1, h2, h3, h4, h5⟩ := h
    exact ⟨_, _, fun w => Height_ok s t m w h0 h1 h2 h3 h4 h5, fun w => rHeight_ok s t m w h0 h1 h2 h3 h4 h5⟩
  · exact ⟨_, _, fun w => Height_err s t m w h, fun w => rHeight_err s t m w h⟩
theorem winL_len (least s t night : Int) : (winL least s t night).length ≤ 97 := by
  have := fw_len least s t night 96
  exact this
theorem windows_both (s t night least : Int) : ∃ (l : List (Int × Int)) (x : Int), l.length ≤ 97 ∧
    Hid (∀ w, Calls Try.prog 17 #[.int .i64 s, .int .i64 t, .int .i64 night, .int .i64 least] w fun q w' => ∃ A c, q = .returned (.tuple #[.slice A l.length c, .int .i64 x]) ∧ RowS w' w'.heap.size A l ∧ Below w.heap.size w w') ∧
    Hid (∀ w, Calls Try.prog 18 #[.int .i64 s, .int .i64 t, .int .i64 night, .int .i64 least] w fun q w' => ∃ A c, q = .returned (.tuple #[.slice A l.length c, .int .i64 x]) ∧ RowS w' w'.heap.size A l ∧ Below w.heap.size w w') := by
  by_cases h : 0 ≤ s ∧ s < 16 ∧ 0 ≤ t ∧ t < 512 ∧ 0 ≤ night ∧ night < 400
  · obtain ⟨h0, h1, h2, h3, h4, h5⟩ := h
    refine ⟨winL least s t night, 0, winL_len _ _ _ _, fun w => Windows_is rfl w h0 h1 h2 h3 h4 h5, fun w => (rWindows_ok s t night least w h0 h1 h2 h3 h4 h5).mono ?_⟩
    rintro q w' ⟨v, rfl, hown, hb⟩
    obtain ⟨hn, A, c, rfl, hR⟩ := own_shapeS hown
    exact ⟨A, c, rfl, hR, hb⟩
  · refine ⟨[], 1, by simp, fun w => (Windows_err s t night least w h).mono ?_, fun w => (rWindows_err s t night least w h).mono ?_⟩
    · rintro q w' ⟨rfl, hb⟩
      exact ⟨none, 0, rfl, .inl rfl, hb⟩
    · rintro q w' ⟨rfl, rfl⟩
      exact ⟨none, 0, rfl, .inl rfl, Below.refl _ _⟩

set_option maxHeartbeats 4000000 in
set_option maxRecDepth 100000 in
theorem walk (a0 : Int) (_w0 : (Lit.int .i64 a0).wf = true) (a1 : Int) (_w1 : (Lit.int .i64 a1).wf = true) (a2 : Int) (_w2 : (Lit.int .i64 a2).wf = true) (a3 : Int) (_w3 : (Lit.int .i64 a3).wf = true) (a4 : Int) (_w4 : (Lit.int .i64 a4).wf = true) (a5 : Int) (_w5 : (Lit.int .i64 a5).wf = true) (a6 : Int) (_w6 : (Lit.int .i64 a6).wf = true) (w : World) :
    Calls Try.prog 3 #[.int .i64 a0, .int .i64 a1, .int .i64 a2, .int .i64 a3, .int .i64 a4, .int .i64 a5, .int .i64 a6] w fun e w' => e = .returned (.bool true) ∧ Below w.heap.size w w' := by
  clear _w0 _w1 _w2 _w3 _w4 _w5 _w6
  obtain ⟨hv, hx, H1, H2⟩ := hour_both a0 a1
  obtain ⟨gv, gx, G1, G2⟩ := height_both a2 a3 a1
  obtain ⟨l, x, hl, W1, W2⟩ := windows_both a2 a3 a5 a6
  obtain ⟨av, A1⟩ : ∃ av, Hid (amV a4 = av) := ⟨_, rfl⟩
  obtain ⟨ae, A2⟩ : ∃ ae, Hid (amE a4 = ae) := ⟨_, rfl⟩
  go_enter Try.func3, Try.ntmps3
  go_wp2_with fail
  refine (head_any _).mono ?_
  rintro e w1 ⟨rfl, hb1⟩
  have HB1 := hid hb1
  clear hb1
  go_wp2_with fail
  refine (H1.out _).mono ?_
  rintro e w2 ⟨rfl, rfl⟩
  go_wp2_with fail
  refine (H2.out _).mono ?_
  rintro e w2 ⟨rfl, rfl⟩
  go_wp2_with fail
  refine (G1.out _).mono ?_
  rintro e w2 ⟨rfl, rfl⟩
  go_wp2_with fail
  refine (G2.out _).mono ?_
  rintro e w2 ⟨rfl, rfl⟩
  go_wp2_with fail
  refine (Airmass_is A1.out A2.out _).mono ?_
  rintro e w2 ⟨rfl, rfl⟩
  go_wp2_with fail
  refine (rAirmass_any _ _).mono ?_
  rw [A1.out, A2.out]
  rintro e w2 ⟨rfl, rfl⟩
  go_wp2_with fail
  refine (W1.out _).mono ?_
  rintro e w3 ⟨A, c, rfl, hR, hb3⟩
  have HR := hid hR
  have HB3 := hid (bl HB1.out hb3)
  clear hR hb3 HB1
  go_wp2_with fail
  refine (W2.out _).mono ?_
  rintro e w4 ⟨A', c', rfl, hR', hb4⟩
  have HR1 := hid (HR.out.call hb4)
  have HR2 := hid hR'
  have HB4 := hid (bl HB3.out hb4)
  clear hR' hb4 HB3 HR
  go_wp2_with fail
  refine (Spans_any A A' c c' l l _ HR1.out HR2.out (by omega) (by omega)).mono ?_
  rintro e w5 ⟨rfl, m, rfl⟩
  go_wp2
  go_ret
  exact ⟨ret_bool (by simp), bl HB4.out (dN _ _)⟩

theorem own : ownKnob Try.prog.godebug = none := by kernel_rfl
theorem laidOut : laidOutB Try.prog = true := by kernel_rfl
set_option maxRecDepth 100000 in
theorem lifted (os : Os) (started : os.Started) (H : Type) (enc : TypeId × Value → H) :
    ReturnsInHanded {} Try.checked os 3 .any (Rows.airmassMatchesReferenceSpec.pre6 enc Try.prog Try.f3 Rows.airmassMatchesReferenceRow.domain false) (Rows.airmassMatchesReferenceSpec.post enc Try.prog Try.f3 false true false false) := by
  refine returnsInHanded_of_change (C := Try.checked) own started (by kernel_rfl) Try.func3
    (ChangeSpec.witness6 (enc := enc) (C := Try.checked) false ⟨#[], #[.int .i64 0, .int .i64 0, .int .i64 0, .int .i64 0, .int .i64 0, .int .i64 0, .int .i64 0], []⟩ 8 (by kernel_rfl) (by kernel_rfl) (by kernel_rfl) (by kernel_rfl)) ?_
  intro W base args ds gs before hval0 hW hcnd _
  have hval : ∀ (j : Nat) t v, Try.f3.params[j]? = some t → args[j]? = some v → Value.okWide Try.prog W .any base t v := hval0
  have hW' := hW
  obtain ⟨p, q, hA0, hV, rfl, hfz, hnd⟩ := hW
  have hA : DataW.TrodAll enc Try.prog W 0 (fun _ => true) true Try.f3.params.toList args.toList ds p := hA0
  rw [Try.params3] at hA hval
  obtain ⟨v0, vs0, d0, ds0, p0, q0, hargs, rfl, rfl, h0, r0⟩ := trodAll_cons hA
  obtain ⟨v1, vs1, d1, ds1, p1, q1, rfl, rfl, rfl, h1, r1⟩ := trodAll_cons r0
  obtain ⟨v2, vs2, d2, ds2, p2, q2, rfl, rfl, rfl, h2, r2⟩ := trodAll_cons r1
  obtain ⟨v3, vs3, d3, ds3, p3, q3, rfl, rfl, rfl, h3, r3⟩ := trodAll_cons r2
  obtain ⟨v4, vs4, d4, ds4, p4, q4, rfl, rfl, rfl, h4, r4⟩ := trodAll_cons r3
  obtain ⟨v5, vs5, d5, ds5, p5, q5, rfl, rfl, rfl, h5, r5⟩ := trodAll_cons r4
  obtain ⟨v6, vs6, d6, ds6, p6, q6, rfl, rfl, rfl, h6, r6⟩ := trodAll_cons r5
  obtain ⟨rfl, rfl, rfl⟩ := trodAll_nil r6
  obtain rfl : args = #[v0, v1, v2, v3, v4, v5, v6] := by cases args; simp_all
  obtain ⟨rfl, rfl⟩ := trodVars_none hV
  obtain ⟨a0, rfl, rfl, rfl, w0⟩ := open_int Try.underlying3 (hval 0 3 v0 rfl rfl) h0
  obtain ⟨a1, rfl, rfl, rfl, w1⟩ := open_int Try.underlying3 (hval 1 3 v1 rfl rfl) h1
  obtain ⟨a2, rfl, rfl, rfl, w2⟩ := open_int Try.underlying3 (hval 2 3 v2 rfl rfl) h2
  obtain ⟨a3, rfl, rfl, rfl, w3⟩ := open_int Try.underlying3 (hval 3 3 v3 rfl rfl) h3
  obtain ⟨a4, rfl, rfl, rfl, w4⟩ := open_int Try.underlying3 (hval 4 3 v4 rfl rfl) h4
  obtain ⟨a5, rfl, rfl, rfl, w5⟩ := open_int Try.underlying3 (hval 5 3 v5 rfl rfl) h5
  obtain ⟨a6, rfl, rfl, rfl, w6⟩ := open_int Try.underlying3 (hval 6 3 v6 rfl rfl) h6
  clear hA0 hval0
  refine (walk a0 w0 a1 w1 a2 w2 a3 w3 a4 w4 a5 w5 a6 w6 W).mono fun e W' ⟨he, bel⟩ => ?_
  subst he
  exact ⟨_, rfl, _, _, _, [], _, [], hW', trodAll_mk1 (shut_bool Try.underlying4 _), (trodAll_cons_mk (shut_int Try.underlying3 w0) (trodAll_cons_mk (shut_int Try.underlying3 w1) (trodAll_cons_mk (shut_int Try.underlying3 w2) (trodAll_cons_mk (shut_int Try.underlying3 w3) (trodAll_cons_mk (shut_int Try.underlying3 w4) (trodAll_cons_mk (shut_int Try.underlying3 w5) (trodAll_cons_mk (shut_int Try.underlying3 w6) trodAll_mk0))))))), rfl, bel.frame _, fun h => by cases h⟩

theorem over : Rows.airmassMatchesReferenceRow.holds Try.pinned (OpenSpec.ofChange Rows.airmassMatchesReferenceSpec) :=
  OpenClaim.holds_of_wide 3 Try.f3 rfl rfl rfl rfl rfl rfl rfl ⟨rfl, rfl, rfl, rfl, rfl⟩ rfl rfl rfl rfl rfl (by kernel_rfl) Try.func3 (by kernel_rfl)
    (of_decide_eq_true (by kernel_rfl)) (by unfold Func.isWrapper; first | (rw [if_pos (by decide +kernel)]; kernel_rfl) | (rw [if_neg (by decide +kernel)]; exact ⟨rfl, rfl⟩))
    (fun os started H enc _ => lifted os started H enc)
theorem proved : Rows.AirmassMatchesReferenceSaid := over
#print axioms proved
end Go.Proofs.Ytpggggjohfbcdaa.airmassMatchesReference
