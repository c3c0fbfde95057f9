/- AirmassHeights returns true at every input: heights lie from -750 to 900 and do not grow with the difference of the bands or the absolute hour angle. No conditions. -/
import Derived.Test.YtpggggjohfbcdaaRows
import Derived.Test.YtpggggjohfbcdaaA8
import Derived.ProofKit
import Derived.OpenShut
import Derived.ChangeOld
import Derived.Below
import Derived.Lib.SmallJoins
namespace Go.Proofs.Ytpggggjohfbcdaa.airmassHeights
open Go.ChangeShapes Go.WideShapes Go.ChangeAt Go.RowKit Go.Joins
set_option linter.unusedVariables false

theorem Hour_is {c m v : Int} (hv : hr c m = v) (w : World) (h0 : 0 ≤ m) (h1 : m < 38400) (h2 : 0 ≤ c) (h3 : c < 32) : Calls Try.prog 11 #[.int .i64 c, .int .i64 m] w fun e w' => e = .returned (.tuple #[.int .i64 v, .int .i64 0]) ∧ w = w' := by
  subst hv; exact Hour_ok c m w h0 h1 h2 h3
theorem lAbs_is {n v : Int} (hv : ab n = v) (w : World) (h0 : -1000000 ≤ n) (h1 : n ≤ 1000000) : Calls Try.prog 20 #[.int .i64 n] w fun e w' => e = .returned (.int .i64 v) ∧ w = w' := by
  subst hv; exact lAbs_any n w h0 h1
theorem Height_is {s t m v : Int} (hv : ht s t m = v) (w : World) (h0 : 0 ≤ m) (h1 : m < 38400) (h2 : 0 ≤ s) (h3 : s < 16) (h4 : 0 ≤ t) (h5 : t < 512) : Calls Try.prog 13 #[.int .i64 s, .int .i64 t, .int .i64 m] w fun e w' => e = .returned (.tuple #[.int .i64 v, .int .i64 0]) ∧ w = w' := by
  subst hv; exact Height_ok s t m w h0 h1 h2 h3 h4 h5

set_option maxHeartbeats 4000000 in
set_option maxRecDepth 100000 in
theorem walk_ok (s one two m n : Int) (w : World) (h0 : 0 ≤ m) (h1 : m < 38400) (h2 : 0 ≤ s) (h3 : s < 16) (h4 : 0 ≤ one) (h5 : one < 512) (k0 : 0 ≤ n) (k1 : n < 38400) (k4 : 0 ≤ two) (k5 : two < 512) :
    Calls Try.prog 5 #[.int .i64 s, .int .i64 one, .int .i64 two, .int .i64 m, .int .i64 n] w fun e w' => e = .returned (.bool true) ∧ Below w.heap.size w w' := by
  obtain ⟨a, ha⟩ : ∃ a, ht s one m = a := ⟨_, rfl⟩
  obtain ⟨b, hb⟩ : ∃ b, ht s two n = b := ⟨_, rfl⟩
  obtain ⟨h, hh⟩ : ∃ h, hr (one % 32) m = h := ⟨_, rfl⟩
  obtain ⟨k, hk⟩ : ∃ k, hr (two % 32) n = k := ⟨_, rfl⟩
  obtain ⟨p, hp⟩ : ∃ p, ab (one / 32 - s) = p := ⟨_, rfl⟩
  obtain ⟨q, hq⟩ : ∃ q, ab (two / 32 - s) = q := ⟨_, rfl⟩
  obtain ⟨u, hu⟩ : ∃ u, ab h = u := ⟨_, rfl⟩
  obtain ⟨v, hv⟩ : ∃ v, ab k = v := ⟨_, rfl⟩
  have ba := ht_bd s one m h2 h3 h4 h5
  have bb := ht_bd s two n h2 h3 k4 k5
  have bh := hr_bd (one % 32) m
  have bk := hr_bd (two % 32) n
  have ea : 900 - 50 * p - 5 * u / 16 = a := by rw [← ha, ← hp, ← hu, ← hh]; rfl
  have eb : 900 - 50 * q - 5 * v / 16 = b := by rw [← hb, ← hq, ← hv, ← hk]; rfl
  have hmon : p ≤ q → u ≤ v → b ≤ a := by intro h1 h2; omega
  rw [ha] at ba
  rw [hb] at bb
  rw [hh] at bh
  rw [hk] at bk
  have HA := hid ha
  have HB := hid hb
  have HH := hid hh
  have HK := hid hk
  have HP := hid hp
  have HQ := hid hq
  have HU := hid hu
  have HV := hid hv
  have HM := hid hmon
  clear ha hb hh hk hp hq hu hv hmon ea eb
  by_cases d1 : q < p
  · go_enter Try.func5, Try.ntmps5
    go_wp2_with fail
    refine (head_any _).mono ?_
    rintro e w1 ⟨rfl, hb1⟩
    go_wp2_with fail
    refine (Height_is HA.out _ h0 h1 h2 h3 h4 h5).mono ?_
    rintro e w2 ⟨rfl, rfl⟩
    go_wp2_with fail
    refine (Height_is HB.out _ k0 k1 h2 h3 k4 k5).mono ?_
    rintro e w2 ⟨rfl, rfl⟩
    go_wp2_with fail
    refine (Hour_is HH.out _ h0 h1 (by omega) (by omega)).mono ?_
    rintro e w2 ⟨rfl, rfl⟩
    go_wp2_with fail
    refine (Hour_is HK.out _ k0 k1 (by omega) (by omega)).mono ?_
    rintro e w2 ⟨rfl, rfl⟩
    go_wp2_with fail
    all_goals
      refine (lAbs_is HP.out _ (by omega) (by omega)).mono ?_
      rintro e w2 ⟨rfl, rfl⟩
      go_wp2_with fail
      refine (lAbs_is HQ.out _ (by omega) (by omega)).mono ?_
      rintro e w2 ⟨rfl, rfl⟩
      go_wp2
      go_ret
      exact ⟨rfl, hb1⟩
  · have d2 : u ≤ v → b ≤ a := HM.out (by omega)
    have D2 := hid d2
    clear d2
    by_cases d3 : v < u
    · go_enter Try.func5, Try.ntmps5
      go_wp2_with fail
      refine (head_any _).mono ?_
      rintro e w1 ⟨rfl, hb1⟩
      go_wp2_with fail
      refine (Height_is HA.out _ h0 h1 h2 h3 h4 h5).mono ?_
      rintro e w2 ⟨rfl, rfl⟩
      go_wp2_with fail
      refine (Height_is HB.out _ k0 k1 h2 h3 k4 k5).mono ?_
      rintro e w2 ⟨rfl, rfl⟩
      go_wp2_with fail
      refine (Hour_is HH.out _ h0 h1 (by omega) (by omega)).mono ?_
      rintro e w2 ⟨rfl, rfl⟩
      go_wp2_with fail
      refine (Hour_is HK.out _ k0 k1 (by omega) (by omega)).mono ?_
      rintro e w2 ⟨rfl, rfl⟩
      go_wp2_with fail
      all_goals
        refine (lAbs_is HP.out _ (by omega) (by omega)).mono ?_
        rintro e w2 ⟨rfl, rfl⟩
        go_wp2_with fail
        refine (lAbs_is HQ.out _ (by omega) (by omega)).mono ?_
        rintro e w2 ⟨rfl, rfl⟩
        go_wp2_with fail
        refine (lAbs_is HU.out _ (by omega) (by omega)).mono ?_
        rintro e w2 ⟨rfl, rfl⟩
        go_wp2_with fail
        refine (lAbs_is HV.out _ (by omega) (by omega)).mono ?_
        rintro e w2 ⟨rfl, rfl⟩
        go_wp2
        go_ret
        exact ⟨rfl, hb1⟩
    · have d4 : b ≤ a := D2.out (by omega)
      have d5 : ¬ a < b := by omega
      go_enter Try.func5, Try.ntmps5
      go_wp2_with fail
      refine (head_any _).mono ?_
      rintro e w1 ⟨rfl, hb1⟩
      go_wp2_with fail
      refine (Height_is HA.out _ h0 h1 h2 h3 h4 h5).mono ?_
      rintro e w2 ⟨rfl, rfl⟩
      go_wp2_with fail
      refine (Height_is HB.out _ k0 k1 h2 h3 k4 k5).mono ?_
      rintro e w2 ⟨rfl, rfl⟩
      go_wp2_with fail
      refine (Hour_is HH.out _ h0 h1 (by omega) (by omega)).mono ?_
      rintro e w2 ⟨rfl, rfl⟩
      go_wp2_with fail
      refine (Hour_is HK.out _ k0 k1 (by omega) (by omega)).mono ?_
      rintro e w2 ⟨rfl, rfl⟩
      go_wp2_with fail
      all_goals
        refine (lAbs_is HP.out _ (by omega) (by omega)).mono ?_
        rintro e w2 ⟨rfl, rfl⟩
        go_wp2_with fail
        refine (lAbs_is HQ.out _ (by omega) (by omega)).mono ?_
        rintro e w2 ⟨rfl, rfl⟩
        go_wp2_with fail
        refine (lAbs_is HU.out _ (by omega) (by omega)).mono ?_
        rintro e w2 ⟨rfl, rfl⟩
        go_wp2_with fail
        refine (lAbs_is HV.out _ (by omega) (by omega)).mono ?_
        rintro e w2 ⟨rfl, rfl⟩
        go_wp2
        go_ret
        exact ⟨rfl, hb1⟩

/-- Height answers a number without an error, or 0 and the error. -/
theorem Height_two (s t m : Int) (h : ¬ (0 ≤ m ∧ m < 38400 ∧ 0 ≤ s ∧ s < 16 ∧ 0 ≤ t ∧ t < 512) ∨ (0 ≤ m ∧ m < 38400 ∧ 0 ≤ s ∧ s < 16 ∧ 0 ≤ t ∧ t < 512)) :
    ∃ v e : Int, (e = 0 ∨ e = 1 ∧ v = 0) ∧ Hid (∀ w, Calls Try.prog 13 #[.int .i64 s, .int .i64 t, .int .i64 m] w fun r w' => r = .returned (.tuple #[.int .i64 v, .int .i64 e]) ∧ w = w') := by
  rcases h with h | ⟨h0, h1, h2, h3, h4, h5⟩
  · exact ⟨0, 1, .inr ⟨rfl, rfl⟩, fun w => Height_err s t m w h⟩
  · exact ⟨_, 0, .inl rfl, fun w => Height_ok s t m w h0 h1 h2 h3 h4 h5⟩

set_option maxHeartbeats 4000000 in
set_option maxRecDepth 100000 in
theorem walk_err1 (s one two m n : Int) (w : World) (h : ¬ (0 ≤ m ∧ m < 38400 ∧ 0 ≤ s ∧ s < 16 ∧ 0 ≤ one ∧ one < 512)) :
    Calls Try.prog 5 #[.int .i64 s, .int .i64 one, .int .i64 two, .int .i64 m, .int .i64 n] w fun e w' => e = .returned (.bool true) ∧ Below w.heap.size w w' := by
  obtain ⟨v, x, hx, HT⟩ := Height_two s two n (Decidable.em _).symm
  have H := hid h
  clear h
  rcases hx with rfl | ⟨rfl, rfl⟩
  all_goals
    go_enter Try.func5, Try.ntmps5
    go_wp2_with fail
    refine (head_any _).mono ?_
    rintro e w1 ⟨rfl, hb1⟩
    go_wp2_with fail
    refine (Height_err _ _ _ _ H.out).mono ?_
    rintro e w2 ⟨rfl, rfl⟩
    go_wp2_with fail
    refine (HT.out _).mono ?_
    rintro e w2 ⟨rfl, rfl⟩
    go_wp2
    go_ret
    exact ⟨rfl, hb1⟩
set_option maxHeartbeats 4000000 in
set_option maxRecDepth 100000 in
theorem walk_err2 (s one two m n : Int) (w : World) (h0 : 0 ≤ m) (h1 : m < 38400) (h2 : 0 ≤ s) (h3 : s < 16) (h4 : 0 ≤ one) (h5 : one < 512) (h : ¬ (0 ≤ n ∧ n < 38400 ∧ 0 ≤ s ∧ s < 16 ∧ 0 ≤ two ∧ two < 512)) :
    Calls Try.prog 5 #[.int .i64 s, .int .i64 one, .int .i64 two, .int .i64 m, .int .i64 n] w fun e w' => e = .returned (.bool true) ∧ Below w.heap.size w w' := by
  have H := hid h
  clear h
  go_enter Try.func5, Try.ntmps5
  go_wp2_with fail
  refine (head_any _).mono ?_
  rintro e w1 ⟨rfl, hb1⟩
  go_wp2_with fail
  refine (Height_ok _ _ _ _ h0 h1 h2 h3 h4 h5).mono ?_
  rintro e w2 ⟨rfl, rfl⟩
  go_wp2_with fail
  refine (Height_err _ _ _ _ H.out).mono ?_
  rintro e w2 ⟨rfl, rfl⟩
  go_wp2
  go_ret
  exact ⟨rfl, hb1⟩
theorem walk (a0 : Int) (_w0 : (Lit.int .i64 a0).wf = true) (a1 : Int) (_w1 : (Lit.int .i64 a1).wf = true) (a2 : Int) (_w2 : (Lit.int .i64 a2).wf = true) (a3 : Int) (_w3 : (Lit.int .i64 a3).wf = true) (a4 : Int) (_w4 : (Lit.int .i64 a4).wf = true) (w : World) :
    Calls Try.prog 5 #[.int .i64 a0, .int .i64 a1, .int .i64 a2, .int .i64 a3, .int .i64 a4] w fun e w' => e = .returned (.bool true) ∧ Below w.heap.size w w' := by
  by_cases h : 0 ≤ a3 ∧ a3 < 38400 ∧ 0 ≤ a0 ∧ a0 < 16 ∧ 0 ≤ a1 ∧ a1 < 512
  · obtain ⟨h0, h1, h2, h3, h4, h5⟩ := h
    by_cases k : 0 ≤ a4 ∧ a4 < 38400 ∧ 0 ≤ a0 ∧ a0 < 16 ∧ 0 ≤ a2 ∧ a2 < 512
    · exact walk_ok a0 a1 a2 a3 a4 w h0 h1 h2 h3 h4 h5 k.1 k.2.1 k.2.2.2.2.1 k.2.2.2.2.2
    · exact walk_err2 a0 a1 a2 a3 a4 w h0 h1 h2 h3 h4 h5 k
  · exact walk_err1 a0 a1 a2 a3 a4 w h

theorem own : ownKnob Try.prog.godebug = none := by kernel_rfl
theorem laidOut : laidOutB Try.prog = true := by kernel_rfl
set_option maxRecDepth 100000 in
theorem lifted (os : Os) (started : os.Started) (H : Type) (enc : TypeId × Value → H) :
    ReturnsInHanded {} Try.checked os 5 .any (Rows.airmassHeightsSpec.pre6 enc Try.prog Try.f5 Rows.airmassHeightsRow.domain false) (Rows.airmassHeightsSpec.post enc Try.prog Try.f5 false true false false) := by
  refine returnsInHanded_of_change (C := Try.checked) own started (by kernel_rfl) Try.func5
    (ChangeSpec.witness6 (enc := enc) (C := Try.checked) false ⟨#[], #[.int .i64 0, .int .i64 0, .int .i64 0, .int .i64 0, .int .i64 0], []⟩ 8 (by kernel_rfl) (by kernel_rfl) (by kernel_rfl) (by kernel_rfl)) ?_
  intro W base args ds gs before hval0 hW hcnd _
  have hval : ∀ (j : Nat) t v, Try.f5.params[j]? = some t → args[j]? = some v → Value.okWide Try.prog W .any base t v := hval0
  have hW' := hW
  obtain ⟨p, q, hA0, hV, rfl, hfz, hnd⟩ := hW
  have hA : DataW.TrodAll enc Try.prog W 0 (fun _ => true) true Try.f5.params.toList args.toList ds p := hA0
  rw [Try.params5] at hA hval
  obtain ⟨v0, vs0, d0, ds0, p0, q0, hargs, rfl, rfl, h0, r0⟩ := trodAll_cons hA
  obtain ⟨v1, vs1, d1, ds1, p1, q1, rfl, rfl, rfl, h1, r1⟩ := trodAll_cons r0
  obtain ⟨v2, vs2, d2, ds2, p2, q2, rfl, rfl, rfl, h2, r2⟩ := trodAll_cons r1
  obtain ⟨v3, vs3, d3, ds3, p3, q3, rfl, rfl, rfl, h3, r3⟩ := trodAll_cons r2
  obtain ⟨v4, vs4, d4, ds4, p4, q4, rfl, rfl, rfl, h4, r4⟩ := trodAll_cons r3
  obtain ⟨rfl, rfl, rfl⟩ := trodAll_nil r4
  obtain rfl : args = #[v0, v1, v2, v3, v4] := by cases args; simp_all
  obtain ⟨rfl, rfl⟩ := trodVars_none hV
  obtain ⟨a0, rfl, rfl, rfl, w0⟩ := open_int Try.underlying3 (hval 0 3 v0 rfl rfl) h0
  obtain ⟨a1, rfl, rfl, rfl, w1⟩ := open_int Try.underlying3 (hval 1 3 v1 rfl rfl) h1
  obtain ⟨a2, rfl, rfl, rfl, w2⟩ := open_int Try.underlying3 (hval 2 3 v2 rfl rfl) h2
  obtain ⟨a3, rfl, rfl, rfl, w3⟩ := open_int Try.underlying3 (hval 3 3 v3 rfl rfl) h3
  obtain ⟨a4, rfl, rfl, rfl, w4⟩ := open_int Try.underlying3 (hval 4 3 v4 rfl rfl) h4
  clear hA0 hval0
  refine (walk a0 w0 a1 w1 a2 w2 a3 w3 a4 w4 W).mono fun e W' ⟨he, bel⟩ => ?_
  subst he
  exact ⟨_, rfl, _, _, _, [], _, [], hW', trodAll_mk1 (shut_bool Try.underlying4 _), (trodAll_cons_mk (shut_int Try.underlying3 w0) (trodAll_cons_mk (shut_int Try.underlying3 w1) (trodAll_cons_mk (shut_int Try.underlying3 w2) (trodAll_cons_mk (shut_int Try.underlying3 w3) (trodAll_cons_mk (shut_int Try.underlying3 w4) trodAll_mk0))))), rfl, bel.frame _, fun h => by cases h⟩

theorem over : Rows.airmassHeightsRow.holds Try.pinned (OpenSpec.ofChange Rows.airmassHeightsSpec) :=
  OpenClaim.holds_of_wide 5 Try.f5 rfl rfl rfl rfl rfl rfl rfl ⟨rfl, rfl, rfl, rfl, rfl⟩ rfl rfl rfl rfl rfl (by kernel_rfl) Try.func5 (by kernel_rfl)
    (of_decide_eq_true (by kernel_rfl)) (by unfold Func.isWrapper; first | (rw [if_pos (by decide +kernel)]; kernel_rfl) | (rw [if_neg (by decide +kernel)]; exact ⟨rfl, rfl⟩))
    (fun os started H enc _ => lifted os started H enc)
theorem proved : Rows.AirmassHeightsSaid := over
#print axioms proved
end Go.Proofs.Ytpggggjohfbcdaa.airmassHeights
