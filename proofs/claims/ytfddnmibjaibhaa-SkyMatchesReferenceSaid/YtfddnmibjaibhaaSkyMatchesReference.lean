/- SkyMatchesReference returns true at every input: Tile, Cell, Centre, Distance and Near answer as the reference does. No conditions. -/
import Derived.Test.YtfddnmibjaibhaaRows
import Derived.Test.YtfddnmibjaibhaaS5
import Derived.ProofKit
import Derived.OpenShut
import Derived.ChangeOld
import Derived.Below
import Derived.Lib.SmallJoins
namespace Go.Proofs.Ytfddnmibjaibhaa.skyMatchesReference
open Go.ChangeShapes Go.WideShapes Go.ChangeAt Go.RowKit Go.Joins
set_option linter.unusedVariables false

theorem tile_both (x y : Int) : ∃ v e : Int, Hid (∀ w, Calls Try.prog 15 #[.agg #[.int .i64 x, .int .i64 y]] w fun r w' => r = .returned (.tuple #[.int .i64 v, .int .i64 e]) ∧ Below w.heap.size w w') ∧
    Hid (∀ w, Calls Try.prog 16 #[.agg #[.int .i64 x, .int .i64 y]] w fun r w' => r = .returned (.tuple #[.int .i64 v, .int .i64 e]) ∧ Below w.heap.size w w') := by
  cases h : posB x y with
  | true => exact ⟨_, _, fun w => tile_ok x y w h, fun w => rtile_ok x y w h⟩
  | false => exact ⟨_, _, fun w => tile_err x y w h, fun w => rtile_err x y w h⟩
theorem cell_both (x y : Int) : ∃ v e : Int, Hid (∀ w, Calls Try.prog 17 #[.agg #[.int .i64 x, .int .i64 y]] w fun r w' => r = .returned (.tuple #[.int .i64 v, .int .i64 e]) ∧ Below w.heap.size w w') ∧
    Hid (∀ w, Calls Try.prog 18 #[.agg #[.int .i64 x, .int .i64 y]] w fun r w' => r = .returned (.tuple #[.int .i64 v, .int .i64 e]) ∧ Below w.heap.size w w') := by
  cases h : posB x y with
  | true =>
    obtain ⟨h0, h1, h2, h3⟩ := posB_of.1 h
    refine ⟨_, _, fun w => cell_ok x y w h, fun w => ?_⟩
    have := rcell_ok x y w h
    rwa [show 2 * (y % 180 / 90) + x % 180 / 90 = 2 * (y % 180 * 2 / 180) + x % 180 * 2 / 180 from by omega] at this
  | false => exact ⟨_, _, fun w => cell_err x y w h, fun w => rcell_err x y w h⟩
theorem centre_both (a : Int) : ∃ x y e : Int, Hid (∀ w, Calls Try.prog 19 #[.int .i64 a] w fun r w' => r = .returned (.tuple #[.agg #[.int .i64 x, .int .i64 y], .int .i64 e]) ∧ Below w.heap.size w w') ∧
    Hid (∀ w, Calls Try.prog 20 #[.int .i64 a] w fun r w' => r = .returned (.tuple #[.agg #[.int .i64 x, .int .i64 y], .int .i64 e]) ∧ Below w.heap.size w w') := by
  cases h : isT a with
  | true =>
    obtain ⟨h0, h1⟩ := isT_of.1 h
    refine ⟨_, _, _, fun w => Centre_ok a w h0 h1, fun w => ?_⟩
    have := rcentre_ok a w h0 h1
    rwa [Int.mul_comm (a % 32), Int.mul_comm (a / 32)] at this
  | false => exact ⟨_, _, _, fun w => Centre_err a w h, fun w => rcentre_err a w h⟩
theorem distance_both (a b : Int) : ∃ v e : Int, Hid (∀ w, Calls Try.prog 21 #[.int .i64 a, .int .i64 b] w fun r w' => r = .returned (.tuple #[.int .i64 v, .int .i64 e]) ∧ Below w.heap.size w w') ∧
    Hid (∀ w, Calls Try.prog 22 #[.int .i64 a, .int .i64 b] w fun r w' => r = .returned (.tuple #[.int .i64 v, .int .i64 e]) ∧ w = w') := by
  cases h : isT a && isT b with
  | true =>
    have h' := h
    rw [Bool.and_eq_true] at h'
    obtain ⟨h0, h1⟩ := isT_of.1 h'.1
    obtain ⟨h2, h3⟩ := isT_of.1 h'.2
    exact ⟨_, _, fun w => Distance_ok a b w h0 h1 h2 h3, fun w => rDistance_ok a b w h0 h1 h2 h3⟩
  | false => exact ⟨_, _, fun w => Distance_err a b w h, fun w => rDistance_err a b w h⟩
theorem near_both (a r : Int) : ∃ (L : List Int) (e : Int), L.length ≤ 512 ∧
    Hid (∀ w, Calls Try.prog 23 #[.int .i64 a, .int .i64 r] w fun q w' => ∃ A c, q = .returned (.tuple #[.slice A L.length c, .int .i64 e]) ∧ RowI w' w'.heap.size A L ∧ Below w.heap.size w w') ∧
    Hid (∀ w, Calls Try.prog 24 #[.int .i64 a, .int .i64 r] w fun q w' => ∃ A c, q = .returned (.tuple #[.slice A L.length c, .int .i64 e]) ∧ RowI w' w'.heap.size A L ∧ Below w.heap.size w w') := by
  by_cases h : 0 ≤ a ∧ a < 512 ∧ 0 ≤ r ∧ r < 32
  · obtain ⟨h0, h1, h2, h3⟩ := h
    refine ⟨(near a r 512).map fun i : Nat => (i : Int), 0, by rw [List.length_map]; exact near_le _ _ _, fun w => (Near_ok a r w h0 h1 h2 h3).mono ?_, fun w => (rNear_ok a r w h0 h1 h2 h3).mono ?_⟩
    all_goals
      rintro q w' ⟨v, rfl, hown, hb⟩
      rw [nv_eq] at hown
      obtain ⟨hn, A, c, rfl, hR⟩ := own_shape hown
      exact ⟨A, c, by rw [hn], hR, hb⟩
  · refine ⟨[], 1, by simp, fun w => (Near_err a r w h).mono ?_, fun w => (rNear_err a r w h).mono ?_⟩
    all_goals
      rintro q w' ⟨rfl, hb⟩
      exact ⟨none, 0, rfl, .inl rfl, hb⟩

set_option maxHeartbeats 4000000 in
set_option maxRecDepth 100000 in
theorem walk (x y : Int) (_wx : (Lit.int .i64 x).wf = true) (_wy : (Lit.int .i64 y).wf = true) (a1 : Int) (_w1 : (Lit.int .i64 a1).wf = true) (a2 : Int) (_w2 : (Lit.int .i64 a2).wf = true) (a3 : Int) (_w3 : (Lit.int .i64 a3).wf = true) (w : World) :
    Calls Try.prog 3 #[.agg #[.int .i64 x, .int .i64 y], .int .i64 a1, .int .i64 a2, .int .i64 a3] w fun e w' => e = .returned (.bool true) ∧ Below w.heap.size w w' := by
  clear _wx _wy _w1 _w2 _w3
  obtain ⟨tv, te, T1, T2⟩ := tile_both x y
  obtain ⟨cv, ce, C1, C2⟩ := cell_both x y
  obtain ⟨mx, my, me, M1, M2⟩ := centre_both a1
  obtain ⟨dv, de, D1, D2⟩ := distance_both a1 a2
  obtain ⟨L, ne, hL, N1, N2⟩ := near_both a1 a3
  go_enter Try.func3, Try.ntmps3
  go_wp2_with fail
  refine (head_any _).mono ?_
  rintro e w1 ⟨rfl, hb1⟩
  have BP1 : Box w1 w.heap.size 23 #[.int .i64 x, .int .i64 y] := (Box.new _ _ _).call hb1
  have HB1 := hid (bl (ba (Below.refl _ _) _) hb1)
  obtain ⟨c0, c1, _, _⟩ := BP1.two
  clear hb1
  go_wp2_with fail
  refine (T1.out _).mono ?_
  clear c0 c1
  rintro e w2 ⟨rfl, hb2⟩
  have BP2 := BP1.call hb2
  have HB2 := hid (bl HB1.out hb2)
  obtain ⟨c0, c1, _, _⟩ := BP2.two
  clear hb2 HB1 BP1
  go_wp2_with fail
  refine (T2.out _).mono ?_
  clear c0 c1
  rintro e w3 ⟨rfl, hb3⟩
  have BP3 := BP2.call hb3
  have HB3 := hid (bl HB2.out hb3)
  obtain ⟨c0, c1, _, _⟩ := BP3.two
  clear hb3 HB2 BP2
  go_wp2_with fail
  refine (C1.out _).mono ?_
  clear c0 c1
  rintro e w4 ⟨rfl, hb4⟩
  have BP4 := BP3.call hb4
  have HB4 := hid (bl HB3.out hb4)
  obtain ⟨c0, c1, _, _⟩ := BP4.two
  clear hb4 HB3 BP3
  go_wp2_with fail
  refine (C2.out _).mono ?_
  clear c0 c1
  rintro e w5 ⟨rfl, hb5⟩
  have HB5 := hid (bl HB4.out hb5)
  clear hb5 HB4 BP4
  go_wp2_with fail
  refine (M1.out _).mono ?_
  rintro e w6 ⟨rfl, hb6⟩
  have HB6 := hid (bl HB5.out hb6)
  clear hb6 HB5
  go_wp2_with fail
  refine (M2.out _).mono ?_
  rintro e w7 ⟨rfl, hb7⟩
  have BM7 : Box w7 w6.heap.size 23 #[.int .i64 mx, .int .i64 my] := (Box.new _ _ _).call hb7
  have HB7 := hid (bl (ba HB6.out _) hb7)
  clear hb7 HB6
  go_wp2_with fail
  refine (D1.out _).mono ?_
  rintro e w8 ⟨rfl, hb8⟩
  have BM8 := (BM7.alloc (.cells #[.int .i64 mx, .int .i64 my] 23)).call hb8
  have BN8 : Box w8 w7.heap.size 23 #[.int .i64 mx, .int .i64 my] := (Box.new _ _ _).call hb8
  have HB8 := hid (bl (ba HB7.out _) hb8)
  clear hb8 HB7 BM7
  go_wp2_with fail
  refine (D2.out _).mono ?_
  rintro e w9 ⟨rfl, rfl⟩
  go_wp2_with fail
  refine (N1.out _).mono ?_
  rintro e w10 ⟨A, c, rfl, hR, hb10⟩
  have BM10 := BM8.call hb10
  have BN10 := BN8.call hb10
  have HB10 := hid (bl HB8.out hb10)
  have HR := hid hR
  clear hb10 HB8 BM8 BN8 hR
  go_wp2_with fail
  refine (N2.out _).mono ?_
  rintro e w11 ⟨A', c', rfl, hR', hb11⟩
  have BM11 := BM10.call hb11
  have BN11 := BN10.call hb11
  have HB11 := hid (bl HB10.out hb11)
  have HR1 := hid ((HR.out.kept hb11).more hb11.size)
  have HR2 := hid hR'
  obtain ⟨c0, c1, _, _⟩ := BM11.two
  obtain ⟨d0, d1, _, _⟩ := BN11.two
  clear hb11 HB10 BM10 BN10 HR hR'
  go_wp2_with fail
  refine (Ints_any A A' c c' L L _ HR1.out HR2.out (by omega) (by omega)).mono ?_
  rintro e w12 ⟨rfl, m, rfl⟩
  go_wp2
  go_ret
  exact ⟨ret_bool (by simp), bl HB11.out (dN _ _)⟩

theorem own : ownKnob Try.prog.godebug = none := by kernel_rfl
theorem laidOut : laidOutB Try.prog = true := by kernel_rfl
set_option maxRecDepth 100000 in
theorem lifted (os : Os) (started : os.Started) (H : Type) (enc : TypeId × Value → H) :
    ReturnsInHanded {} Try.checked os 3 .any (Rows.skyMatchesReferenceSpec.pre6 enc Try.prog Try.f3 Rows.skyMatchesReferenceRow.domain false) (Rows.skyMatchesReferenceSpec.post enc Try.prog Try.f3 false true false false) := by
  refine returnsInHanded_of_change (C := Try.checked) own started (by kernel_rfl) Try.func3
    (ChangeSpec.witness6 (enc := enc) (C := Try.checked) false ⟨#[], #[.agg #[.int .i64 0, .int .i64 0], .int .i64 0, .int .i64 0, .int .i64 0], []⟩ 8 (by kernel_rfl) (by kernel_rfl) (by kernel_rfl) (by kernel_rfl)) ?_
  intro W base args ds gs before hval0 hW hcnd _
  have hval : ∀ (j : Nat) t v, Try.f3.params[j]? = some t → args[j]? = some v → Value.okWide Try.prog W .any base t v := hval0
  have hW' := hW
  obtain ⟨p, q, hA0, hV, rfl, hfz, hnd⟩ := hW
  have hA : DataW.TrodAll enc Try.prog W 0 (fun _ => true) true Try.f3.params.toList args.toList ds p := hA0
  rw [Try.params3] at hA hval
  obtain ⟨v0, vs0, d0, ds0, p0, q0, hargs, rfl, rfl, h0, r0⟩ := trodAll_cons hA
  obtain ⟨v1, vs1, d1, ds1, p1, q1, rfl, rfl, rfl, h1, r1⟩ := trodAll_cons r0
  obtain ⟨v2, vs2, d2, ds2, p2, q2, rfl, rfl, rfl, h2, r2⟩ := trodAll_cons r1
  obtain ⟨v3, vs3, d3, ds3, p3, q3, rfl, rfl, rfl, h3, r3⟩ := trodAll_cons r2
  obtain ⟨rfl, rfl, rfl⟩ := trodAll_nil r3
  obtain rfl : args = #[v0, v1, v2, v3] := by cases args; simp_all
  obtain ⟨rfl, rfl⟩ := trodVars_none hV
  have k0 := h0
  have lt0 : ∀ x ∈ p0, x.block < W.heap.size := by obtain ⟨m, hm⟩ := k0; exact DataW.trod_lt m _ _ _ hm
  obtain ⟨x0, y0, wx0, wy0, rfl⟩ : ∃ x y : Int, (Lit.int .i64 x).wf = true ∧ (Lit.int .i64 y).wf = true ∧ v0 = .agg #[.int .i64 x, .int .i64 y] := by
    obtain ⟨c0, c1, y0, y1, m, rfl, rfl, rfl, hy0, hy1⟩ := open_agg2 Try.underlying23 (by kernel_rfl) (by kernel_rfl) (hval 0 23 v0 rfl rfl) h0
    obtain ⟨a, e0, _, wa⟩ := DataW.trod_int Try.underlying3 hy0
    obtain ⟨b, e1, _, wb⟩ := DataW.trod_int Try.underlying3 hy1
    simp at e0 e1; subst e0 e1
    exact ⟨a, b, wa, wb, rfl⟩
  obtain ⟨a1, rfl, rfl, rfl, w1⟩ := open_int Try.underlying3 (hval 1 3 v1 rfl rfl) h1
  obtain ⟨a2, rfl, rfl, rfl, w2⟩ := open_int Try.underlying3 (hval 2 3 v2 rfl rfl) h2
  obtain ⟨a3, rfl, rfl, rfl, w3⟩ := open_int Try.underlying3 (hval 3 3 v3 rfl rfl) h3
  clear hA0 hval0
  refine (walk x0 y0 wx0 wy0 a1 w1 a2 w2 a3 w3 W).mono fun e W' ⟨he, bel⟩ => ?_
  subst he
  exact ⟨_, rfl, _, _, _, [], _, [], hW', trodAll_mk1 (shut_bool Try.underlying4 _), (trodAll_cons_mk (Below.trod laidOut (by kernel_rfl) (of_decide_eq_true (by kernel_rfl)) k0 bel lt0) (trodAll_cons_mk (shut_int Try.underlying3 w1) (trodAll_cons_mk (shut_int Try.underlying3 w2) (trodAll_cons_mk (shut_int Try.underlying3 w3) trodAll_mk0)))), rfl, bel.frame _, fun h => by cases h⟩

theorem over : Rows.skyMatchesReferenceRow.holds Try.pinned (OpenSpec.ofChange Rows.skyMatchesReferenceSpec) :=
  OpenClaim.holds_of_wide 3 Try.f3 rfl rfl rfl rfl rfl rfl rfl ⟨rfl, rfl, rfl, rfl, rfl⟩ rfl rfl rfl rfl rfl (by kernel_rfl) Try.func3 (by kernel_rfl)
    (of_decide_eq_true (by kernel_rfl)) (by unfold Func.isWrapper; first | (rw [if_pos (by decide +kernel)]; kernel_rfl) | (rw [if_neg (by decide +kernel)]; exact ⟨rfl, rfl⟩))
    (fun os started H enc _ => lifted os started H enc)
theorem proved : Rows.SkyMatchesReferenceSaid := over
#print axioms proved
end Go.Proofs.Ytfddnmibjaibhaa.skyMatchesReference
