/- SkyTiles returns true at every input: two positions are in one tile exactly if their quotients by 180 agree; a step of 180 leads to the next tile; the cell tells the side of the centre. No conditions. -/
import Derived.Test.YtfddnmibjaibhaaRows
import Derived.Test.YtfddnmibjaibhaaS5
import Derived.ProofKit
import Derived.OpenShut
import Derived.ChangeOld
import Derived.Below
import Derived.Lib.SmallJoins
namespace Go.Proofs.Ytfddnmibjaibhaa.skyTiles
open Go.ChangeShapes Go.WideShapes Go.ChangeAt Go.RowKit Go.Joins
set_option linter.unusedVariables false

theorem tiles_plain (px py qx qy a b c mx my : Int) (h0 : 0 ≤ px) (h1 : px < 5760) (h2 : 0 ≤ py) (h3 : py < 2880) (k0 : 0 ≤ qx) (k1 : qx < 5760)
    (ha : 32 * (py / 180) + px / 180 = a) (hb : 32 * (qy / 180) + qx / 180 = b) (hc : 2 * (py % 180 * 2 / 180) + px % 180 * 2 / 180 = c) (hmx : 180 * (a % 32) + 90 = mx) (hmy : 180 * (a / 32) + 90 = my) :
    (0 ≤ a ∧ a < 512) ∧ (0 ≤ c ∧ c ≤ 3) ∧ (a = b ↔ px / 180 = qx / 180 ∧ py / 180 = qy / 180) ∧ (mx - 90 ≤ px ∧ px < mx + 90 ∧ my - 90 ≤ py ∧ py < my + 90) ∧ (c % 2 = 0 ↔ px < mx) ∧ (c / 2 = 0 ↔ py < my) := by
  refine ⟨by omega, by omega, by omega, by omega, by omega, by omega⟩
set_option maxHeartbeats 4000000 in
set_option maxRecDepth 100000 in
theorem walk (a0 : Int) (w0 : (Lit.int .u16 a0).wf = true) (a1 : Int) (w1 : (Lit.int .u16 a1).wf = true) (a2 : Int) (w2 : (Lit.int .u16 a2).wf = true) (a3 : Int) (w3 : (Lit.int .u16 a3).wf = true) (w : World) :
    Calls Try.prog 4 #[.int .u16 a0, .int .u16 a1, .int .u16 a2, .int .u16 a3] w fun e w' => e = .returned (.bool true) ∧ Below w.heap.size w w' := by
  have b0 := bounds_u16 w0
  have b1 := bounds_u16 w1
  have b2 := bounds_u16 w2
  have b3 := bounds_u16 w3
  clear w0 w1 w2 w3
  obtain ⟨px, hpx⟩ : ∃ p, a0 % 5760 = p := ⟨_, rfl⟩
  obtain ⟨py, hpy⟩ : ∃ p, a1 % 2880 = p := ⟨_, rfl⟩
  obtain ⟨qx, hqx⟩ : ∃ p, a2 % 5760 = p := ⟨_, rfl⟩
  obtain ⟨qy, hqy⟩ : ∃ p, a3 % 2880 = p := ⟨_, rfl⟩
  have p0 : 0 ≤ px := by omega
  have p1 : px < 5760 := by omega
  have p2 : 0 ≤ py := by omega
  have p3 : py < 2880 := by omega
  have q0 : 0 ≤ qx := by omega
  have q1 : qx < 5760 := by omega
  have q2 : 0 ≤ qy := by omega
  have q3 : qy < 2880 := by omega
  obtain ⟨a, ha⟩ : ∃ a, 32 * (py / 180) + px / 180 = a := ⟨_, rfl⟩
  obtain ⟨b, hb⟩ : ∃ b, 32 * (qy / 180) + qx / 180 = b := ⟨_, rfl⟩
  obtain ⟨c, hc⟩ : ∃ c, 2 * (py % 180 * 2 / 180) + px % 180 * 2 / 180 = c := ⟨_, rfl⟩
  obtain ⟨mx, hmx⟩ : ∃ m, 180 * (a % 32) + 90 = m := ⟨_, rfl⟩
  obtain ⟨my, hmy⟩ : ∃ m, 180 * (a / 32) + 90 = m := ⟨_, rfl⟩
  obtain ⟨⟨fa0, fa1⟩, ⟨fc0, fc1⟩, hab, ⟨m0, m1, m2, m3⟩, hcx, hcy⟩ := tiles_plain px py qx qy a b c mx my p0 p1 p2 p3 q0 q1 ha hb hc hmx hmy
  have n1 : 32 * (py / 180) + (px + 180) / 180 = a + 1 := by omega
  have n2 : 32 * ((py + 180) / 180) + px / 180 = a + 32 := by omega
  have HPX := hid hpx
  have HPY := hid hpy
  have HQX := hid hqx
  have HQY := hid hqy
  have HA := hid ha
  have HB := hid hb
  have HC := hid hc
  have HMX := hid hmx
  have HMY := hid hmy
  have HAB := hid hab
  have HCX := hid hcx
  have HCY := hid hcy
  have HN1 := hid n1
  have HN2 := hid n2
  clear hpx hpy hqx hqy ha hb hc hmx hmy hab hcx hcy n1 n2
  go_enter Try.func4, Try.ntmps4
  go_wp2_with fail
  refine (head_any _).mono ?_
  rintro e w1 ⟨rfl, hb1⟩
  go_wp2_with fail
  refine (place_is HPX.out HPY.out _ (by omega) (by omega) (by omega) (by omega)).mono ?_
  rintro e w2 ⟨rfl, hb2⟩
  go_wp2_with fail
  refine (place_is HQX.out HQY.out _ (by omega) (by omega) (by omega) (by omega)).mono ?_
  rintro e w3 ⟨rfl, hb3⟩
  have HBel := hid (bl (bl hb1 hb2) hb3)
  have HSZ := hid HBel.out.size
  clear hb1 hb2 hb3 b0 b1 b2 b3
  go_wp2_with fail
  refine (tile_is HA.out _ (posB_of.2 ⟨p0, p1, p2, p3⟩)).mono ?_
  rintro e w4 ⟨rfl, hb4⟩
  have BP4 : Box w4 w3.heap.size 23 #[.int .i64 px, .int .i64 py] := ((Box.new _ _ _).alloc _).call hb4
  have BQ4 : Box w4 (w3.heap.size + 1) 23 #[.int .i64 qx, .int .i64 qy] := (Box.new' _ _ _ (by simp)).call hb4
  have HBel4 := hid (bl (ba (ba HBel.out _) _) hb4)
  obtain ⟨cp0, cp1, fp0, fp1⟩ := BP4.two
  obtain ⟨cq0, cq1, fq0, fq1⟩ := BQ4.two
  clear HBel hb4
  go_wp2_with fail
  refine (tile_is HB.out _ (posB_of.2 ⟨q0, q1, q2, q3⟩)).mono ?_
  clear cp0 cp1 fp0 fp1 cq0 cq1 fq0 fq1
  rintro e w5 ⟨rfl, hb5⟩
  have BP5 := BP4.call hb5
  have BQ5 := BQ4.call hb5
  have HBel5 := hid (bl HBel4.out hb5)
  obtain ⟨cp0, cp1, fp0, fp1⟩ := BP5.two
  obtain ⟨cq0, cq1, fq0, fq1⟩ := BQ5.two
  clear HBel4 hb5 BP4 BQ4
  go_wp2_with fail
  refine (cell_is HC.out _ (posB_of.2 ⟨p0, p1, p2, p3⟩)).mono ?_
  clear cp0 cp1 fp0 fp1 cq0 cq1 fq0 fq1
  rintro e w6 ⟨rfl, hb6⟩
  have BP6 := BP5.call hb6
  have BQ6 := BQ5.call hb6
  have HBel6 := hid (bl HBel5.out hb6)
  obtain ⟨cp0, cp1, fp0, fp1⟩ := BP6.two
  obtain ⟨cq0, cq1, fq0, fq1⟩ := BQ6.two
  clear HBel5 hb6 BP5 BQ5
  go_wp2_with fail
  refine (Centre_is HMX.out HMY.out _ fa0 fa1).mono ?_
  clear cp0 cp1 fp0 fp1 cq0 cq1 fq0 fq1
  rintro e w7 ⟨rfl, hb7⟩
  have BP7 := BP6.call hb7
  have BQ7 := BQ6.call hb7
  have HBel7 := hid (bl HBel6.out hb7)
  have hz3 := BP7.lt
  have hz4 := BQ7.lt
  obtain ⟨cp0, cp1, fp0, fp1⟩ := BP7.two
  obtain ⟨cq0, cq1, fq0, fq1⟩ := BQ7.two
  clear HBel6 hb7 BP6 BQ6
  have HLE := hid (show w.heap.size ≤ w3.heap.size from HSZ.out)
  go_upto_region 9 with fail
  go_cut [130] (fun s wx => s = .bool false ∧ wx = w7.alloc (.cells #[.int .i64 mx, .int .i64 my] 23))
  case first =>
    have e0 : decide (px < mx - 90) = false := by simp; omega
    have e1 : decide (mx + 90 ≤ px) = false := by simp; omega
    have e2 : decide (py < my - 90) = false := by simp; omega
    have e3 : decide (my + 90 ≤ py) = false := by simp; omega
    by_cases hx : px / 180 = qx / 180
    · have ex : (px / 180 == qx / 180) = true := by simpa using hx
      by_cases hy : py / 180 = qy / 180
      · have ey : (py / 180 == qy / 180) = true := by simpa using hy
        have eab : (a == b) = true := by simpa using HAB.out.2 ⟨hx, hy⟩
        clear hx hy
        go_wp2_with fail
        go_meet
        exact ⟨rfl, rfl⟩
      · have ey : (py / 180 == qy / 180) = false := by simpa using hy
        have eab : (a == b) = false := by simpa using (fun h => hy (HAB.out.1 h).2)
        clear hx hy
        go_wp2_with fail
        go_meet
        exact ⟨rfl, rfl⟩
    · have ex : (px / 180 == qx / 180) = false := by simpa using hx
      have eab : (a == b) = false := by simpa using (fun h => hx (HAB.out.1 h).1)
      clear hx
      go_wp2_with fail
      go_meet
      exact ⟨rfl, rfl⟩
  case rest =>
    obtain ⟨rfl, rfl⟩ := hcut
    go_upto_region 11 with fail
    go_cut [150] (fun s wx => s = .bool false ∧ wx = w7.alloc (.cells #[.int .i64 mx, .int .i64 my] 23))
    case first =>
      clear m0 m1 m2 m3
      by_cases hx : px < mx
      · have ex : (c % 2 == 0) = true := by simpa using HCX.out.2 hx
        by_cases hy : py < my
        · have ey : (c / 2 == 0) = true := by simpa using HCY.out.2 hy
          go_wp2_with fail
          go_meet
          exact ⟨rfl, rfl⟩
        · have ey : (c / 2 == 0) = false := by simpa using (fun h => hy (HCY.out.1 h))
          go_wp2_with fail
          go_meet
          exact ⟨rfl, rfl⟩
      · have ex : (c % 2 == 0) = false := by simpa using (fun h => hx (HCX.out.1 h))
        by_cases hy : py < my
        · have ey : (c / 2 == 0) = true := by simpa using HCY.out.2 hy
          go_wp2_with fail
          go_meet
          exact ⟨rfl, rfl⟩
        · have ey : (c / 2 == 0) = false := by simpa using (fun h => hy (HCY.out.1 h))
          go_wp2_with fail
          go_meet
          exact ⟨rfl, rfl⟩
    case rest =>
      obtain ⟨rfl, rfl⟩ := hcut
      clear m0 m1 m2 m3
      go_wp2_with fail
      by_cases h6 : px + 180 < 5760
      · refine (tile_is HN1.out _ (posB_of.2 ⟨by omega, h6, p2, p3⟩)).mono ?_
        rintro e w8 ⟨rfl, hb8⟩
        have BP8 : Box w8 w3.heap.size 23 #[.int .i64 (px + 180), .int .i64 py] := ((BP7.put 0 _).alloc _).call hb8
        have HBel8 := hid (bl (ba (HBel7.out.setCell (p := ⟨w3.heap.size, 0, none⟩) HLE.out _) _) hb8)
        obtain ⟨dp0, dp1, gp0, gp1⟩ := BP8.two
        clear hb8 cp0 cp1 fp0 fp1 cq0 cq1 fq0 fq1
        go_wp2_with fail
        by_cases h7 : py + 180 < 2880
        · refine (tile_is HN2.out _ (posB_of.2 ⟨by omega, by omega, by omega, h7⟩)).mono ?_
          rintro e w9 ⟨rfl, hb9⟩
          have BP9 : Box w9 w3.heap.size 23 #[.int .i64 px, .int .i64 (py + 180)] := ((BP8.put 0 (.int .i64 px)).put 1 (.int .i64 (py + 180))).call hb9
          have HBel9 := hid (bl ((HBel8.out.setCell (p := ⟨w3.heap.size, 0, none⟩) HLE.out _).setCell (p := ⟨w3.heap.size, 1, none⟩) HLE.out _) hb9)
          obtain ⟨ep0, ep1, ip0, ip1⟩ := BP9.two
          clear hb9 dp0 dp1 gp0 gp1
          go_wp2
          go_ret
          exact ⟨rfl, HBel9.out⟩
        · refine (tile_err _ _ _ (posB_not.2 (by omega))).mono ?_
          rintro e w9 ⟨rfl, hb9⟩
          have BP9 : Box w9 w3.heap.size 23 #[.int .i64 px, .int .i64 (py + 180)] := ((BP8.put 0 (.int .i64 px)).put 1 (.int .i64 (py + 180))).call hb9
          have HBel9 := hid (bl ((HBel8.out.setCell (p := ⟨w3.heap.size, 0, none⟩) HLE.out _).setCell (p := ⟨w3.heap.size, 1, none⟩) HLE.out _) hb9)
          obtain ⟨ep0, ep1, ip0, ip1⟩ := BP9.two
          clear hb9 dp0 dp1 gp0 gp1
          go_wp2
          go_ret
          exact ⟨rfl, HBel9.out⟩
      · refine (tile_err _ _ _ (posB_not.2 (by omega))).mono ?_
        rintro e w8 ⟨rfl, hb8⟩
        have BP8 : Box w8 w3.heap.size 23 #[.int .i64 (px + 180), .int .i64 py] := ((BP7.put 0 _).alloc _).call hb8
        have HBel8 := hid (bl (ba (HBel7.out.setCell (p := ⟨w3.heap.size, 0, none⟩) HLE.out _) _) hb8)
        obtain ⟨dp0, dp1, gp0, gp1⟩ := BP8.two
        clear hb8 cp0 cp1 fp0 fp1 cq0 cq1 fq0 fq1
        go_wp2_with fail
        by_cases h7 : py + 180 < 2880
        · refine (tile_is HN2.out _ (posB_of.2 ⟨by omega, by omega, by omega, h7⟩)).mono ?_
          rintro e w9 ⟨rfl, hb9⟩
          have BP9 : Box w9 w3.heap.size 23 #[.int .i64 px, .int .i64 (py + 180)] := ((BP8.put 0 (.int .i64 px)).put 1 (.int .i64 (py + 180))).call hb9
          have HBel9 := hid (bl ((HBel8.out.setCell (p := ⟨w3.heap.size, 0, none⟩) HLE.out _).setCell (p := ⟨w3.heap.size, 1, none⟩) HLE.out _) hb9)
          obtain ⟨ep0, ep1, ip0, ip1⟩ := BP9.two
          clear hb9 dp0 dp1 gp0 gp1
          go_wp2
          go_ret
          exact ⟨rfl, HBel9.out⟩
        · refine (tile_err _ _ _ (posB_not.2 (by omega))).mono ?_
          rintro e w9 ⟨rfl, hb9⟩
          have BP9 : Box w9 w3.heap.size 23 #[.int .i64 px, .int .i64 (py + 180)] := ((BP8.put 0 (.int .i64 px)).put 1 (.int .i64 (py + 180))).call hb9
          have HBel9 := hid (bl ((HBel8.out.setCell (p := ⟨w3.heap.size, 0, none⟩) HLE.out _).setCell (p := ⟨w3.heap.size, 1, none⟩) HLE.out _) hb9)
          obtain ⟨ep0, ep1, ip0, ip1⟩ := BP9.two
          clear hb9 dp0 dp1 gp0 gp1
          go_wp2
          go_ret
          exact ⟨rfl, HBel9.out⟩

theorem own : ownKnob Try.prog.godebug = none := by kernel_rfl
theorem laidOut : laidOutB Try.prog = true := by kernel_rfl
set_option maxRecDepth 100000 in
theorem lifted (os : Os) (started : os.Started) (H : Type) (enc : TypeId × Value → H) :
    ReturnsInHanded {} Try.checked os 4 .any (Rows.skyTilesSpec.pre6 enc Try.prog Try.f4 Rows.skyTilesRow.domain false) (Rows.skyTilesSpec.post enc Try.prog Try.f4 false true false false) := by
  refine returnsInHanded_of_change (C := Try.checked) own started (by kernel_rfl) Try.func4
    (ChangeSpec.witness6 (enc := enc) (C := Try.checked) false ⟨#[], #[.int .u16 0, .int .u16 0, .int .u16 0, .int .u16 0], []⟩ 8 (by kernel_rfl) (by kernel_rfl) (by kernel_rfl) (by kernel_rfl)) ?_
  intro W base args ds gs before hval0 hW hcnd _
  have hval : ∀ (j : Nat) t v, Try.f4.params[j]? = some t → args[j]? = some v → Value.okWide Try.prog W .any base t v := hval0
  have hW' := hW
  obtain ⟨p, q, hA0, hV, rfl, hfz, hnd⟩ := hW
  have hA : DataW.TrodAll enc Try.prog W 0 (fun _ => true) true Try.f4.params.toList args.toList ds p := hA0
  rw [Try.params4] at hA hval
  obtain ⟨v0, vs0, d0, ds0, p0, q0, hargs, rfl, rfl, h0, r0⟩ := trodAll_cons hA
  obtain ⟨v1, vs1, d1, ds1, p1, q1, rfl, rfl, rfl, h1, r1⟩ := trodAll_cons r0
  obtain ⟨v2, vs2, d2, ds2, p2, q2, rfl, rfl, rfl, h2, r2⟩ := trodAll_cons r1
  obtain ⟨v3, vs3, d3, ds3, p3, q3, rfl, rfl, rfl, h3, r3⟩ := trodAll_cons r2
  obtain ⟨rfl, rfl, rfl⟩ := trodAll_nil r3
  obtain rfl : args = #[v0, v1, v2, v3] := by cases args; simp_all
  obtain ⟨rfl, rfl⟩ := trodVars_none hV
  obtain ⟨a0, rfl, rfl, rfl, w0⟩ := open_int Try.underlying36 (hval 0 36 v0 rfl rfl) h0
  obtain ⟨a1, rfl, rfl, rfl, w1⟩ := open_int Try.underlying36 (hval 1 36 v1 rfl rfl) h1
  obtain ⟨a2, rfl, rfl, rfl, w2⟩ := open_int Try.underlying36 (hval 2 36 v2 rfl rfl) h2
  obtain ⟨a3, rfl, rfl, rfl, w3⟩ := open_int Try.underlying36 (hval 3 36 v3 rfl rfl) h3
  clear hA0 hval0
  refine (walk a0 w0 a1 w1 a2 w2 a3 w3 W).mono fun e W' ⟨he, bel⟩ => ?_
  subst he
  exact ⟨_, rfl, _, _, _, [], _, [], hW', trodAll_mk1 (shut_bool Try.underlying4 _), (trodAll_cons_mk (shut_int Try.underlying36 w0) (trodAll_cons_mk (shut_int Try.underlying36 w1) (trodAll_cons_mk (shut_int Try.underlying36 w2) (trodAll_cons_mk (shut_int Try.underlying36 w3) trodAll_mk0)))), rfl, bel.frame _, fun h => by cases h⟩

theorem over : Rows.skyTilesRow.holds Try.pinned (OpenSpec.ofChange Rows.skyTilesSpec) :=
  OpenClaim.holds_of_wide 4 Try.f4 rfl rfl rfl rfl rfl rfl rfl ⟨rfl, rfl, rfl, rfl, rfl⟩ rfl rfl rfl rfl rfl (by kernel_rfl) Try.func4 (by kernel_rfl)
    (of_decide_eq_true (by kernel_rfl)) (by unfold Func.isWrapper; first | (rw [if_pos (by decide +kernel)]; kernel_rfl) | (rw [if_neg (by decide +kernel)]; exact ⟨rfl, rfl⟩))
    (fun os started H enc _ => lifted os started H enc)
theorem proved : Rows.SkyTilesSaid := over
#print axioms proved
end Go.Proofs.Ytfddnmibjaibhaa.skyTiles
