/- MergeOrder returns true at every input: two alerts are in one group exactly if they are when all alerts are given in the opposite order. No conditions. -/
import Derived.Test.YtfddnmibjaibhaaRows
import Derived.Test.YtfddnmibjaibhaaMK
import Derived.ProofKit
import Derived.OpenShut
import Derived.ChangeOld
import Derived.Below
import Derived.Lib.SmallJoins
namespace Go.Proofs.Ytfddnmibjaibhaa.mergeOrder
open Go.ChangeShapes Go.WideShapes Go.ChangeAt Go.RowKit Go.Joins
set_option linter.unusedVariables false

set_option maxHeartbeats 3200000 in
set_option maxRecDepth 100000 in
theorem walk (w : World) (A : Option Addr) (l : List Al) (cp : Nat) (hz : l.length ≤ maxLen) (hA : RowA w w.heap.size A l) (a1 : Int) (_w1 : (Lit.int .i64 a1).wf = true) :
    Calls Try.prog 13 #[.slice A l.length cp, .int .i64 a1] w fun e w' => e = .returned (.bool true) ∧ Below w.heap.size w w' := by
  obtain ⟨n, hn⟩ : ∃ n, l.length = n := ⟨_, rfl⟩
  rw [hn] at hz ⊢
  have HN := hid hn
  have HA := hid hA
  have HZ := hid hz
  have hzm : n ≤ 2 ^ 63 - 1 := hz
  clear hn hA hz
  obtain ⟨f, hf⟩ : ∃ f, decide (n ≤ 24 ∨ (200 < n ∧ n ≤ 210)) = f := ⟨_, rfl⟩
  have HF := hid hf
  clear hf
  obtain ⟨E, hE⟩ : ∃ E, errG l = E := ⟨_, rfl⟩
  have hE0 : (E == 0) = false := by rw [← hE]; unfold errG; split <;> rfl
  have hE1 : (E != 0) = true := by rw [← hE]; unfold errG; split <;> rfl
  have HE := hid hE
  clear hE
  go_enter Try.func13, Try.ntmps13
  go_wp2_with fail
  refine (head38_any _).mono ?_
  rintro e w3 ⟨rfl, hb3⟩
  have HB3 := hid hb3
  clear hb3
  go_wp2_with fail
  refine (few_any _ _ _ _ HZ.out).mono ?_
  rintro e w4 ⟨rfl, rfl⟩
  rw [HF.out]
  cases f
  · go_wp2
    go_ret
    exact ⟨rfl, HB3.out⟩
  · have hn1 : n ≤ 210 := by have := of_decide_eq_true HF.out; omega
    have hA3 := HA.out.kept (hb := HB3.out)
    have HA3 := hid (hA3.wide HB3.out.size)
    clear hA3
    go_wp2_with fail
    go_loopw [6, 7] (fun v i wr => ∃ k : Nat, k ≤ n ∧ i = .int .i64 ((n : Int) - k - 1) ∧ Hid (wr.ownsRow w3.heap.size 52 5 v k (alCells (l.reverse.take k))) ∧ Hid (Below w3.heap.size w3 wr)) (fun _ i _ => (intOf i + 1).toNat)
    case atStart => exact ⟨0, Nat.zero_le _, by simp, World.ownsRow_nil _ _ _ _, Below.refl _ _⟩
    case round =>
      obtain ⟨k, hk, rfl, hO, hB⟩ := hrel
      by_cases hkn : k < n
      · obtain ⟨j, hj⟩ : ∃ j, n = k + j + 1 := ⟨n - k - 1, by omega⟩
        have ej : (n : Int) - k - 1 = (j : Int) := by omega
        have hjn : j < n := by omega
        have hjl : j < l.length := by rw [HN.out]; exact hjn
        obtain ⟨x, hx⟩ : ∃ x, l[j] = x := ⟨_, rfl⟩
        have hlj : l[j]? = some x := by rw [List.getElem?_eq_getElem hjl, hx]
        rcases HA3.out with hnil | ⟨b, o, rfl, hb, hc⟩
        · rw [hnil] at hjl; simp at hjl
        have ee : ∀ i, i < 5 → wr.cell? ⟨b, o + j * 5 + i, none⟩ = (acell x)[i]? := fun i hi => (hB.out.cell (p := ⟨b, o + j * 5 + i, none⟩) (by simpa using hb)).trans (hc j x hlj i hi)
        have htk : l.reverse.take (k + 1) = l.reverse.take k ++ [x] := by
          have hkr : k < l.reverse.length := by rw [List.length_reverse, HN.out]; exact hkn
          rw [List.take_succ_eq_append_getElem hkr, List.getElem_reverse]
          congr 2
          rw [← hx]
          congr 1
          have := HN.out
          omega
        have HTK := hid htk
        obtain ⟨t, cc, f, u, a⟩ := x
        have y0 := ee 0 (by omega)
        have y1 := ee 1 (by omega)
        have y2 := ee 2 (by omega)
        have y3 := ee 3 (by omega)
        have y4 := ee 4 (by omega)
        simp [acell] at y0 y1 y2 y3 y4
        have hw3 : w3.heap.size ≤ wr.heap.size := hB.out.size
        have HJ := hid hj
        clear ee hc hlj hx htk hj
        rw [ej]
        go_wp2_with (at_builtin; refine wp_app_al rfl _ _ rfl w3.heap.size _ _ _ rfl (hO.out.alloc _) _ _ ⟨t, cc, f, u, a⟩ _ rfl (heap_alloc_new _ _) (by omega) (by simp; omega) ?_)
        intro v' w5 hown hgrow hloc
        have HO5 : Hid (w5.ownsRow w3.heap.size 52 5 v' (k + 1) (alCells (l.reverse.take (k + 1)))) := by
          unfold Hid; rw [HTK.out, alCells_append]; simpa [alCells] using hown
        have HB5 : Hid (Below w3.heap.size w3 w5) :=
          Fr.below (ba hB.out _) ((Fr.refl (fun x => u6.ownBlock = some x) _).grown hgrow (fun x hx => .inl hx)) (Nat.le_refl _) (fun x hx => (hO.out.lt x hx).1)
        clear hown hgrow hloc
        go_wp2
        go_roundw
        case rel => exact ⟨k + 1, by omega, (by have := HJ.out; exact congrArg (Value.int .i64) (by omega)), HO5, HB5⟩
        case measure => simp [intOf]
      · obtain rfl : k = n := by omega
        have em : (k : Int) - k - 1 = -1 := by omega
        rw [em]
        have hO2 : wr.ownsRow w3.heap.size 52 5 u6 k (alCells l.reverse) := by
          have := hO.out
          rwa [List.take_of_length_le (by rw [List.length_reverse, HN.out]; exact Nat.le_refl _)] at this
        obtain ⟨A6, c6, rfl, hR⟩ := own_rowA hO2
        have HR := hid hR
        have HBX := hid hB.out
        have HB4 := hid (bl HB3.out hB.out)
        have HA4 := hid ((HA3.out.kept hB.out).wide hB.out.size)
        have HRL : Hid (l.reverse.length = k) := by unfold Hid; rw [List.length_reverse, HN.out]
        rw [HRL.out]
        clear hO hB hO2 hR em HA3 HB3
        go_wp2_with fail
        refine (Groups_n HN.out HE.out _ _ _ _ (by omega) HA4.out).mono ?_
        rintro e w4 ⟨hb4, hr4⟩
        have HR4 := hid ((HR.out.kept hb4).wide hb4.size)
        have HB5 := hid (bl HB4.out hb4)
        have HX4 := hid hb4
        clear hb4 HR
        rcases hr4 with ⟨hk4, A4, c4, rfl, hG4⟩ | ⟨hk4, rfl⟩
        all_goals
          have HK4 := hid ((okG_rev a1 l).trans hk4)
          have HL4 := hid hk4
          clear hk4
        · have HG4 := hid hG4
          clear hG4
          go_wp2_with fail
          refine (Groups_n HRL.out ((errG_rev l).trans HE.out) _ _ _ _ (by omega) HR4.out).mono ?_
          rintro e w5 ⟨hb5, hr5⟩
          have HB6 := hid (bl HB5.out hb5)
          have HG5 := hid (HG4.out.call hb5)
          clear hb5
          rcases hr5 with ⟨hk5, A5, c5, rfl, hG5⟩ | ⟨hk5, rfl⟩
          · have HH5 := hid hG5
            clear hG5 hk5
            have hl200 : k ≤ 200 := by rw [← HN.out]; exact (okG_of.1 HL4.out).1
            have hgl := gl_rev a1 l
            have hidr := fun (i j : Nat) (hi : i < k) (hj : j < k) => idx_rev a1 l (i := i) (j := j) (by rw [HN.out]; exact hi) (by rw [HN.out]; exact hj)
            rw [HN.out] at hgl hidr
            obtain ⟨c, hc⟩ : ∃ c, col a1 l = c := ⟨_, rfl⟩
            obtain ⟨d, hd⟩ : ∃ d, col a1 l.reverse = d := ⟨_, rfl⟩
            rw [hc] at HG5 hgl hidr ⊢
            rw [hd] at HH5 hgl hidr ⊢
            clear hc hd
            have HID := hid hidr
            obtain ⟨G1, hG1⟩ : ∃ x, (gl k c).length = x := ⟨_, rfl⟩
            have HG1 := hid hG1
            have HG2 := hid (hgl.symm.trans hG1)
            rw [hG1, hgl.symm.trans hG1]
            clear hidr hG1 hgl
            go_wp2_with fail
            refine (of_is HG1.out _ _ HG5.out (Nat.le_refl _) hl200).mono ?_
            rintro e w6 ⟨rfl, hr6, hb6⟩
            have HR6 := hid hr6
            have HB7 := hid (bl HB6.out hb6)
            have HH6 := hid (HH5.out.call hb6)
            have hs6 : w5.heap.size < w6.heap.size := World.rowIs.lt hr6
            clear hr6 hb6 HG5 HH5
            go_wp2_with fail
            refine (of_is HG2.out _ _ HH6.out (Nat.le_refl _) hl200).mono ?_
            rintro e w7 ⟨rfl, hr7, hb7⟩
            have HR7 := hid hr7
            have HB8 := hid (bl HB7.out hb7)
            have HX7 := hid hb7
            have hs7 : w6.heap.size < w7.heap.size := World.rowIs.lt hr7
            clear hr7 hb7 HH6
            go_wp2_with fail
            go_loopw [17] (fun i wr => ∃ q m : Nat, q ≤ k ∧ i = .int .i64 (q : Nat) ∧ wr = w7.drewN m) (fun i _ => k - (intOf i).toNat)
            case atStart => exact ⟨0, 0, Nat.zero_le _, rfl, rfl⟩
            case round =>
              obtain ⟨i, m, hi, rfl, rfl⟩ := hrel
              by_cases hin : i < k
              · obtain ⟨i', hi'⟩ : ∃ i', k = i + i' + 1 := ⟨k - i - 1, by omega⟩
                have ei : (k : Int) - 1 - (i : Int) = (i' : Int) := by omega
                have hi'k : i' < k := by omega
                have hki : k - 1 - i = i' := by omega
                have HKI := hid hki
                have ci := (HX7.out.cell (p := ⟨w5.heap.size, i, none⟩) (by simpa using hs6)).trans (HR6.out.cell hin)
                have di := HR7.out.cell hi'k
                obtain ⟨ai, hai⟩ : ∃ x, idx k c i + 1 = x := ⟨_, rfl⟩
                obtain ⟨bi, hbi⟩ : ∃ x, idx k d i' + 1 = x := ⟨_, rfl⟩
                rw [hai] at ci
                rw [hbi] at di
                have HAI := hid hai
                have HBI := hid hbi
                clear hai hbi hki hi'
                go_wp2_with fail
                go_loopw [18] (fun j wr => ∃ q m : Nat, q ≤ i ∧ j = .int .i64 (q : Nat) ∧ wr = w7.drewN m) (fun j _ => i - (intOf j).toNat)
                case atStart => exact ⟨0, _, Nat.zero_le _, rfl, rfl⟩
                case round =>
                  obtain ⟨j, m', hj, rfl, rfl⟩ := hrel
                  by_cases hji : j < i
                  · obtain ⟨j', hj'⟩ : ∃ j', k = j + j' + 1 := ⟨k - j - 1, by omega⟩
                    have ej : (k : Int) - 1 - (j : Int) = (j' : Int) := by omega
                    have hj'k : j' < k := by omega
                    have hjk : j < k := by omega
                    have hkj : k - 1 - j = j' := by omega
                    have cj := (HX7.out.cell (p := ⟨w5.heap.size, j, none⟩) (by simpa using hs6)).trans (HR6.out.cell hjk)
                    have dj := HR7.out.cell hj'k
                    obtain ⟨aj, haj⟩ : ∃ x, idx k c j + 1 = x := ⟨_, rfl⟩
                    obtain ⟨bj, hbj⟩ : ∃ x, idx k d j' + 1 = x := ⟨_, rfl⟩
                    rw [haj] at cj
                    rw [hbj] at dj
                    have hlaw : ai = aj ↔ bi = bj := by
                      have h1 := HAI.out
                      have h2 := HBI.out
                      have := HID.out i j hin hjk
                      rw [HKI.out, hkj] at this
                      omega
                    clear haj hbj hkj hj'
                    by_cases he : ai = aj
                    · have heb := hlaw.1 he
                      subst he
                      subst heb
                      clear hlaw
                      go_wp2_with fail
                      go_quiet (fail)
                      go_wp2
                      go_roundw
                      case rel => exact ⟨j + 1, _, by omega, by go_num, rfl⟩
                      case measure => simp [intOf]; omega
                    · have ex : ((ai : Int) == (aj : Int)) = false := by simp; omega
                      have ey : ((bi : Int) == (bj : Int)) = false := by simp; omega
                      clear hlaw
                      go_wp2_with fail
                      go_quiet (fail)
                      go_wp2
                      go_roundw
                      case rel => exact ⟨j + 1, _, by omega, by go_num, rfl⟩
                      case measure => simp [intOf]; omega
                  · obtain rfl : j = i := by omega
                    go_wp2
                    go_roundw
                    case rel => exact ⟨j + 1, _, by omega, by go_num, rfl⟩
                    case measure => simp [intOf]; omega
              · obtain rfl : i = k := by omega
                go_wp2
                go_ret
                exact ⟨rfl, bl HB8.out (dN _ _)⟩
          · exact absurd (HK4.out.symm.trans hk5) (by decide)
        · go_wp2_with fail
          refine (Groups_n HRL.out ((errG_rev l).trans HE.out) _ _ _ _ (by omega) HR4.out).mono ?_
          rintro e w5 ⟨hb5, hr5⟩
          have HB6 := hid (bl HB5.out hb5)
          clear hb5
          rcases hr5 with ⟨hk5, A5, c5, rfl, hG5⟩ | ⟨hk5, rfl⟩
          · exact absurd (HK4.out.symm.trans hk5) (by decide)
          · go_wp2
            go_ret
            exact ⟨rfl, HB6.out⟩

theorem own : ownKnob Try.prog.godebug = none := by kernel_rfl
theorem laidOut : laidOutB Try.prog = true := by kernel_rfl
set_option maxRecDepth 100000 in
theorem lifted (os : Os) (started : os.Started) (H : Type) (enc : TypeId × Value → H) :
    ReturnsInHanded {} Try.checked os 13 .any (Rows.mergeOrderSpec.pre6 enc Try.prog Try.f13 Rows.mergeOrderRow.domain false) (Rows.mergeOrderSpec.post enc Try.prog Try.f13 false true false false) := by
  refine returnsInHanded_of_change (C := Try.checked) own started (by kernel_rfl) Try.func13
    (ChangeSpec.witness6 (enc := enc) (C := Try.checked) false ⟨#[], #[.slice none 0 0, .int .i64 0], []⟩ 8 (by kernel_rfl) (by kernel_rfl) (by kernel_rfl) (by kernel_rfl)) ?_
  intro W base args ds gs before hval0 hW hcnd _
  have hval : ∀ (j : Nat) t v, Try.f13.params[j]? = some t → args[j]? = some v → Value.okWide Try.prog W .any base t v := hval0
  have hW' := hW
  obtain ⟨p, q, hA0, hV, rfl, hfz, hnd⟩ := hW
  have hA : DataW.TrodAll enc Try.prog W 0 (fun _ => true) true Try.f13.params.toList args.toList ds p := hA0
  rw [Try.params13] at hA hval
  obtain ⟨v0, vs0, d0, ds0, p0, q0, hargs, rfl, rfl, h0, r0⟩ := trodAll_cons hA
  obtain ⟨v1, vs1, d1, ds1, p1, q1, rfl, rfl, rfl, h1, r1⟩ := trodAll_cons r0
  obtain ⟨rfl, rfl, rfl⟩ := trodAll_nil r1
  obtain rfl : args = #[v0, v1] := by cases args; simp_all
  obtain ⟨rfl, rfl⟩ := trodVars_none hV
  have k0 := h0
  have lt0 : ∀ x ∈ p0, x.block < W.heap.size := by obtain ⟨m, hm⟩ := k0; exact DataW.trod_lt m _ _ _ hm
  obtain ⟨A0, l0, c0, rfl, z0, hz0⟩ := open_alerts (hval 0 42 v0 rfl rfl) h0
  obtain ⟨a1, rfl, rfl, rfl, w1⟩ := open_int Try.underlying3 (hval 1 3 v1 rfl rfl) h1
  clear hA0 hval0
  refine (walk W A0 l0 c0 z0 hz0 a1 w1).mono fun e W' ⟨he, bel⟩ => ?_
  subst he
  exact ⟨_, rfl, _, _, _, [], _, [], hW', trodAll_mk1 (shut_bool Try.underlying4 _), (trodAll_cons_mk (Below.trod laidOut (by kernel_rfl) (of_decide_eq_true (by kernel_rfl)) k0 bel lt0) (trodAll_cons_mk (shut_int Try.underlying3 w1) trodAll_mk0)), rfl, bel.frame _, fun h => by cases h⟩

theorem over : Rows.mergeOrderRow.holds Try.pinned (OpenSpec.ofChange Rows.mergeOrderSpec) :=
  OpenClaim.holds_of_wide 13 Try.f13 rfl rfl rfl rfl rfl rfl rfl ⟨rfl, rfl, rfl, rfl, rfl⟩ rfl rfl rfl rfl rfl (by kernel_rfl) Try.func13 (by kernel_rfl)
    (of_decide_eq_true (by kernel_rfl)) (by unfold Func.isWrapper; first | (rw [if_pos (by decide +kernel)]; kernel_rfl) | (rw [if_neg (by decide +kernel)]; exact ⟨rfl, rfl⟩))
    (fun os started H enc _ => lifted os started H enc)
theorem proved : Rows.MergeOrderSaid := over
#print axioms proved
end Go.Proofs.Ytfddnmibjaibhaa.mergeOrder
