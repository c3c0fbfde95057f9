/- MergeSetAsReference returns true at every input: each result of a set, and its groups after each of them, agree with the reference implementation. No conditions. -/
import Derived.Test.YtfddnmibjaibhaaRows
import Derived.Test.YtfddnmibjaibhaaMS
import Derived.ProofKit
import Derived.OpenShut
import Derived.ChangeOld
import Derived.Below
import Derived.Lib.SmallJoins
namespace Go.Proofs.Ytfddnmibjaibhaa.mergeSetAsReference
open Go.ChangeShapes Go.WideShapes Go.ChangeAt Go.RowKit Go.Joins
set_option linter.unusedVariables false

theorem small {n : Nat} {c : Nat → Nat} (hn : n ≤ 200) : (gl n c).length ≤ 1000000 ∧ ∀ l ∈ gl n c, l.length ≤ 1000000 :=
  ⟨by have := fr_le n c; rw [gl_length]; omega, fun l hl => by have := (gl_len_le hl).2; omega⟩
set_option maxHeartbeats 3200000 in
set_option maxRecDepth 100000 in
theorem walk (w : World) (A : Option Addr) (l : List Al) (cp : Nat) (hz : l.length ≤ maxLen) (hA : RowA w w.heap.size A l) (a1 : Int) (_w1 : (Lit.int .i64 a1).wf = true) :
    Calls Try.prog 11 #[.slice A l.length cp, .int .i64 a1] w fun e w' => e = .returned (.bool true) ∧ Below w.heap.size w w' := by
  obtain ⟨n, hn⟩ : ∃ n, l.length = n := ⟨_, rfl⟩
  rw [hn] at hz ⊢
  have HN := hid hn
  have HA := hid hA
  have hzm : n ≤ 2 ^ 63 - 1 := hz
  clear hn hA hz
  obtain ⟨mo, hmo⟩ : ∃ m, isM a1 = m := ⟨_, rfl⟩
  have HM := hid hmo
  clear hmo
  go_enter Try.func11, Try.ntmps11
  go_wp2_with fail
  refine (head38_any _).mono ?_
  rintro e w3 ⟨rfl, hb3⟩
  have HB3 := hid hb3
  clear hb3
  by_cases h24 : n ≤ 24
  · cases mo
    · go_wp2_with fail
      refine (New_bad _ _ HM.out).mono ?_
      rintro e w4 ⟨rfl, rfl⟩
      go_wp2_with fail
      refine (rNew_bad _ _ HM.out).mono ?_
      rintro e w4 ⟨rfl, rfl⟩
      go_wp2_with fail
      go_loopw [10] (fun i wr => ∃ k : Nat, k ≤ n ∧ i = .int .i64 (k : Nat) ∧ Hid (Below w.heap.size w wr)) (fun i _ => n - (intOf i).toNat)
      case atStart => exact ⟨0, Nat.zero_le _, rfl, HB3⟩
      case round =>
        obtain ⟨k, hk, rfl, hB⟩ := hrel
        obtain ⟨wx, hwx⟩ : ∃ wx, wx = wr := ⟨_, rfl⟩
        subst hwx
        by_cases hkn : k < n
        · have hkl : k < l.length := by rw [HN.out]; exact hkn
          obtain ⟨y, hy⟩ : ∃ y, l[k] = y := ⟨_, rfl⟩
          have hlk : l[k]? = some y := by rw [List.getElem?_eq_getElem hkl, hy]
          obtain ⟨b, o, rfl, hb, hc⟩ := rowA_cells HA.out (by omega)
          have HC := hid hc
          obtain ⟨y0, y1, y2, y3, y4⟩ := hc k y hlk wx hB.out
          obtain ⟨t2, c2, f2, u2, s2⟩ := y
          dsimp only at y0 y1 y2 y3 y4
          have HLK := hid hlk
          clear hy hc hlk
          go_wp2_with fail
          refine (Add_nil ⟨t2, c2, f2, u2, s2⟩ _).mono ?_
          rintro e w5 ⟨rfl, hb5⟩
          have HB5 := hid (bl hB.out hb5)
          clear hb5 y0 y1 y2 y3 y4
          obtain ⟨y0, y1, y2, y3, y4⟩ := HC.out k _ HLK.out w5 HB5.out
          dsimp only at y0 y1 y2 y3 y4
          go_wp2_with fail
          refine (rAdd_nil ⟨t2, c2, f2, u2, s2⟩ _).mono ?_
          rintro e w6 ⟨rfl, hb6⟩
          have HB6 := hid (bl HB5.out hb6)
          clear hb6 y0 y1 y2 y3 y4
          go_wp2_with fail
          refine (SGroups_nil _).mono ?_
          rintro e w7 ⟨rfl, rfl⟩
          go_wp2_with fail
          refine (rSGroups_nil _).mono ?_
          rintro e w7 ⟨rfl, rfl⟩
          go_wp2_with fail
          refine (Same_yes (gs := []) (hs := []) rfl rfl rfl _ _ _ _ 0 0 0 0 _ (.inl rfl) (.inl rfl) (by simp) (by simp)).mono ?_
          rintro e w7 ⟨rfl, hb7⟩
          have HB7 := hid (bl HB6.out hb7)
          clear hb7
          go_wp2
          go_roundw
          case rel => exact ⟨k + 1, by omega, by go_num, HB7⟩
          case measure => simp [intOf]; omega
        · obtain rfl : k = n := by omega
          go_wp2
          go_ret
          exact ⟨rfl, hB.out⟩
    · go_wp2_with fail
      refine (New_ok _ _ HM.out).mono ?_
      rintro e w4 ⟨rfl, hs4, hb4⟩
      have HS4 := hid hs4
      have HB4 := hid hb4
      clear hs4 hb4
      obtain ⟨p, hp⟩ : ∃ p, w3.heap.size = p := ⟨_, rfl⟩
      rw [hp] at HS4 HB4
      have HP := hid hp
      rw [hp]
      have hpw : p < w4.heap.size := HS4.out.uf.lt
      have hwp : w.heap.size ≤ p := by rw [← hp]; exact HB3.out.size
      clear hp
      go_wp2_with fail
      refine (rNew_ok _ _ HM.out).mono ?_
      rintro e w5 ⟨rfl, hs5, hb5⟩
      have hTwo : Two w5 p w4.heap.size a1 [] (.slice none 0 0) (.slice none 0 0) :=
        ⟨HS4.out.kept (K := fun _ => False) ((Fr.refl _ w4).call hb5) (fun _ _ => id), hs5, hpw, by simp [Value.ownBlock], by simp [Value.ownBlock]⟩
      have HT5 := hid hTwo
      have HB5 := hid (blp HB4.out HP.out hb5)
      clear hTwo hs5 hb5
      obtain ⟨q, hq⟩ : ∃ q, w4.heap.size = q := ⟨_, rfl⟩
      rw [hq] at HT5 hpw ⊢
      clear hq
      go_wp2_with fail
      go_loopw [10] (fun i wr => ∃ (k : Nat) (v v2 : Value), k ≤ n ∧ i = .int .i64 (k : Nat) ∧ Hid (Two wr p q a1 (vls (l.take k)) v v2) ∧ Hid (Below p w3 wr)) (fun i _ => n - (intOf i).toNat)
      case atStart => exact ⟨0, _, _, Nat.zero_le _, rfl, HT5, HB5⟩
      case round =>
        obtain ⟨k, v, v2, hk, rfl, hT, hB⟩ := hrel
        obtain ⟨wx, hwx⟩ : ∃ wx, wx = wr := ⟨_, rfl⟩
        subst hwx
        by_cases hkn : k < n
        · have hkl : k < l.length := by rw [HN.out]; exact hkn
          obtain ⟨y, hy⟩ : ∃ y, l[k] = y := ⟨_, rfl⟩
          have hlk : l[k]? = some y := by rw [List.getElem?_eq_getElem hkl, hy]
          have htk : l.take (k + 1) = l.take k ++ [y] := by rw [List.take_succ_eq_append_getElem hkl, hy]
          have hvl : (vls (l.take k)).length ≤ k := Nat.le_trans (vls_le _) (by rw [List.length_take]; omega)
          obtain ⟨b, o, rfl, hb, hc⟩ := rowA_cells HA.out (by omega)
          have HC : Hid (∀ w1 : World, Below p w3 w1 → AlAt w1 b (o + k * 5) y) := fun w1 hb1 => hc k y hlk w1 (HB3.out.trans (hb1.mono hwp))
          obtain ⟨y0, y1, y2, y3, y4⟩ := HC.out wx hB.out
          obtain ⟨V, hV⟩ : ∃ V, isV y = V := ⟨_, rfl⟩
          have HV := hid hV
          have HTK := hid htk
          cases V
          · have HVL : Hid (vls (l.take (k + 1)) = vls (l.take k)) := by unfold Hid; rw [HTK.out, vls_no HV.out]
            obtain ⟨t2, c2, f2, u2, s2⟩ := y
            dsimp only at y0 y1 y2 y3 y4
            clear hy hc hlk htk hV
            go_wp2_with fail
            refine (Add_bad p ⟨t2, c2, f2, u2, s2⟩ _ HV.out).mono ?_
            rintro e w5 ⟨rfl, hb5⟩
            have HT6 := hid (hT.out.call hb5)
            have HB6 := hid (blp hB.out HP.out hb5)
            clear hb5 y0 y1 y2 y3 y4
            obtain ⟨y0, y1, y2, y3, y4⟩ := HC.out w5 HB6.out
            dsimp only at y0 y1 y2 y3 y4
            go_wp2_with fail
            refine (rAdd_bad q ⟨t2, c2, f2, u2, s2⟩ _ HV.out).mono ?_
            rintro e w6 ⟨rfl, hb6⟩
            have HT7 : Hid (Two w6 p q a1 (vls (l.take (k + 1))) v v2) := by unfold Hid; rw [HVL.out]; exact HT6.out.call hb6
            have HB7 := hid (blp HB6.out HP.out hb6)
            have hvl1 : (vls (l.take (k + 1))).length ≤ k + 1 := by rw [HVL.out]; omega
            clear hb6 y0 y1 y2 y3 y4
            obtain ⟨lk, hlk⟩ : ∃ lk, vls (l.take (k + 1)) = lk := ⟨_, rfl⟩
            have HLK := hid hlk
            rw [hlk] at HT7 hvl1
            obtain ⟨mk, hmk⟩ : ∃ mk, lk.length = mk := ⟨_, rfl⟩
            have HMK := hid hmk
            rw [hmk] at hvl1
            obtain ⟨c, hc⟩ : ∃ c, col a1 lk = c := ⟨_, rfl⟩
            have HCC := hid hc
            have hsm := small (n := mk) (c := c) (by omega)
            have HSM := hid hsm
            obtain ⟨G, hG⟩ : ∃ G, (gl mk c).length = G := ⟨_, rfl⟩
            have HG := hid hG
            clear hlk hmk hc hsm hG
            go_wp2_with fail
            refine (SGroups_at HMK.out HCC.out HG.out _ HT7.out.s).mono ?_
            rintro e w7 ⟨A7, c7, rfl, hg7, hs7, hf7⟩
            have HG7 := hid hg7
            have HB8 := hid (Fr.below HB7.out hf7 (Nat.le_of_eq HP.out.symm) (fun x hx => by omega))
            have HT8 : Hid (Two w7 p q a1 lk v v2) := ⟨hs7, HT7.out.rkept (hf7.mono (fun x h => .inl (.inl h))), HT7.out.pq, HT7.out.vq, HT7.out.vv⟩
            clear hg7 hs7 hf7 HT7
            go_wp2_with fail
            refine (rSGroups_at HMK.out HCC.out HG.out _ HT8.out.t).mono ?_
            rintro e w8 ⟨A8, c8, rfl, hg8, hb8⟩
            have HG8 := hid hg8
            have HH8 := hid (HG7.out.call hb8)
            have HB9 := hid (blp HB8.out HP.out hb8)
            have HT9 := hid (HT8.out.call hb8)
            clear hg8 hb8 HT8 HG7
            go_wp2_with fail
            refine (Same_yes (gs := gl mk c) (hs := gl mk c) rfl HG.out HG.out _ _ _ _ _ _ _ _ _ HH8.out HG8.out HSM.out.1 HSM.out.2).mono ?_
            rintro e w9 ⟨rfl, hb9⟩
            have HBa := hid (blp HB9.out HP.out hb9)
            have HTa : Hid (Two w9 p q a1 (vls (l.take (k + 1))) v v2) := by unfold Hid; rw [HLK.out]; exact HT9.out.call hb9
            clear hb9
            go_wp2
            go_roundw
            case rel => exact ⟨k + 1, v, v2, by omega, by go_num, HTa, HBa⟩
            case measure => simp [intOf]; omega
          · have HVL : Hid (vls (l.take (k + 1)) = vls (l.take k) ++ [y]) := by unfold Hid; rw [HTK.out, vls_yes HV.out]
            obtain ⟨nk, hnk⟩ : ∃ nk, (vls (l.take k)).length = nk := ⟨_, rfl⟩
            have HNK := hid hnk
            obtain ⟨r, hr⟩ : ∃ r, (mem (nk + 1) (col a1 (vls (l.take k) ++ [y])) (col a1 (vls (l.take k) ++ [y]) nk)).length = r := ⟨_, rfl⟩
            have HR := hid hr
            rw [hnk] at hvl
            have hvl1 : (vls (l.take (k + 1))).length ≤ k + 1 := by rw [HVL.out, List.length_append, hnk]; simp; omega
            obtain ⟨t2, c2, f2, u2, s2⟩ := y
            dsimp only at y0 y1 y2 y3 y4
            clear hy hc hlk htk hV hnk hr
            go_wp2_with fail
            refine (Add_at2 HNK.out HR.out _ hT.out.s HV.out (by omega)).mono ?_
            rintro e w5 ⟨rfl, v', hs5, hf5, ho5⟩
            have HS5 := hid hs5
            have HF5 := hid hf5
            have HO5 := hid ho5
            have HB6 := hid (hT.out.s.below hB.out (Nat.le_of_eq HP.out.symm) hf5)
            have HR5 := hid (hT.out.rkept hf5)
            clear hs5 hf5 ho5 y0 y1 y2 y3 y4
            obtain ⟨y0, y1, y2, y3, y4⟩ := HC.out w5 HB6.out
            dsimp only at y0 y1 y2 y3 y4
            go_wp2_with fail
            refine (rAdd_ok HNK.out HR.out _ HR5.out HV.out (by omega)).mono ?_
            rintro e w6 ⟨rfl, v2', hs6, hf6, ho6⟩
            have HT7 : Hid (Two w6 p q a1 (vls (l.take (k + 1))) v' v2') := by unfold Hid; rw [HVL.out]; exact hT.out.add HS5.out HF5.out HO5.out hs6 hf6 ho6
            have HB7 := hid (Fr.below HB6.out hf6 (Nat.le_of_eq HP.out.symm) (fun x hx => by
              rcases hx with h1 | h1
              · omega
              · have := (HR5.out.own.lt x h1).1; omega))
            clear hs6 hf6 ho6 y0 y1 y2 y3 y4
            obtain ⟨lk, hlk⟩ : ∃ lk, vls (l.take (k + 1)) = lk := ⟨_, rfl⟩
            have HLK := hid hlk
            rw [hlk] at HT7 hvl1
            obtain ⟨mk, hmk⟩ : ∃ mk, lk.length = mk := ⟨_, rfl⟩
            have HMK := hid hmk
            rw [hmk] at hvl1
            obtain ⟨c, hc⟩ : ∃ c, col a1 lk = c := ⟨_, rfl⟩
            have HCC := hid hc
            have hsm := small (n := mk) (c := c) (by omega)
            have HSM := hid hsm
            obtain ⟨G, hG⟩ : ∃ G, (gl mk c).length = G := ⟨_, rfl⟩
            have HG := hid hG
            clear hlk hmk hc hsm hG
            go_wp2_with fail
            refine (SGroups_at HMK.out HCC.out HG.out _ HT7.out.s).mono ?_
            rintro e w7 ⟨A7, c7, rfl, hg7, hs7, hf7⟩
            have HG7 := hid hg7
            have HB8 := hid (Fr.below HB7.out hf7 (Nat.le_of_eq HP.out.symm) (fun x hx => by omega))
            have HT8 : Hid (Two w7 p q a1 lk v' v2') := ⟨hs7, HT7.out.rkept (hf7.mono (fun x h => .inl (.inl h))), HT7.out.pq, HT7.out.vq, HT7.out.vv⟩
            clear hg7 hs7 hf7 HT7
            go_wp2_with fail
            refine (rSGroups_at HMK.out HCC.out HG.out _ HT8.out.t).mono ?_
            rintro e w8 ⟨A8, c8, rfl, hg8, hb8⟩
            have HG8 := hid hg8
            have HH8 := hid (HG7.out.call hb8)
            have HB9 := hid (blp HB8.out HP.out hb8)
            have HT9 := hid (HT8.out.call hb8)
            clear hg8 hb8 HT8 HG7
            go_wp2_with fail
            refine (Same_yes (gs := gl mk c) (hs := gl mk c) rfl HG.out HG.out _ _ _ _ _ _ _ _ _ HH8.out HG8.out HSM.out.1 HSM.out.2).mono ?_
            rintro e w9 ⟨rfl, hb9⟩
            have HBa := hid (blp HB9.out HP.out hb9)
            have HTa : Hid (Two w9 p q a1 (vls (l.take (k + 1))) v' v2') := by unfold Hid; rw [HLK.out]; exact HT9.out.call hb9
            clear hb9
            go_wp2
            go_roundw
            case rel => exact ⟨k + 1, v', v2', by omega, by go_num, HTa, HBa⟩
            case measure => simp [intOf]; omega
        · obtain rfl : k = n := by omega
          have HBE := hid (HB3.out.trans (hB.out.mono hwp))
          go_wp2
          go_ret
          exact ⟨rfl, HBE.out⟩
  · go_wp2
    go_ret
    exact ⟨rfl, HB3.out⟩

theorem own : ownKnob Try.prog.godebug = none := by kernel_rfl
theorem laidOut : laidOutB Try.prog = true := by kernel_rfl
set_option maxRecDepth 100000 in
theorem lifted (os : Os) (started : os.Started) (H : Type) (enc : TypeId × Value → H) :
    ReturnsInHanded {} Try.checked os 11 .any (Rows.mergeSetAsReferenceSpec.pre6 enc Try.prog Try.f11 Rows.mergeSetAsReferenceRow.domain false) (Rows.mergeSetAsReferenceSpec.post enc Try.prog Try.f11 false true false false) := by
  refine returnsInHanded_of_change (C := Try.checked) own started (by kernel_rfl) Try.func11
    (ChangeSpec.witness6 (enc := enc) (C := Try.checked) false ⟨#[], #[.slice none 0 0, .int .i64 0], []⟩ 8 (by kernel_rfl) (by kernel_rfl) (by kernel_rfl) (by kernel_rfl)) ?_
  intro W base args ds gs before hval0 hW hcnd _
  have hval : ∀ (j : Nat) t v, Try.f11.params[j]? = some t → args[j]? = some v → Value.okWide Try.prog W .any base t v := hval0
  have hW' := hW
  obtain ⟨p, q, hA0, hV, rfl, hfz, hnd⟩ := hW
  have hA : DataW.TrodAll enc Try.prog W 0 (fun _ => true) true Try.f11.params.toList args.toList ds p := hA0
  rw [Try.params11] at hA hval
  obtain ⟨v0, vs0, d0, ds0, p0, q0, hargs, rfl, rfl, h0, r0⟩ := trodAll_cons hA
  obtain ⟨v1, vs1, d1, ds1, p1, q1, rfl, rfl, rfl, h1, r1⟩ := trodAll_cons r0
  obtain ⟨rfl, rfl, rfl⟩ := trodAll_nil r1
  obtain rfl : args = #[v0, v1] := by cases args; simp_all
  obtain ⟨rfl, rfl⟩ := trodVars_none hV
  have k0 := h0
  have lt0 : ∀ x ∈ p0, x.block < W.heap.size := by obtain ⟨m, hm⟩ := k0; exact DataW.trod_lt m _ _ _ hm
  obtain ⟨A0, l0, c0, rfl, z0, hz0⟩ := open_alerts (hval 0 42 v0 rfl rfl) h0
  obtain ⟨a1, rfl, rfl, rfl, w1⟩ := open_int Try.underlying3 (hval 1 3 v1 rfl rfl) h1
  clear hA0 hval0
  refine (walk W A0 l0 c0 z0 hz0 a1 w1).mono fun e W' ⟨he, bel⟩ => ?_
  subst he
  exact ⟨_, rfl, _, _, _, [], _, [], hW', trodAll_mk1 (shut_bool Try.underlying4 _), (trodAll_cons_mk (Below.trod laidOut (by kernel_rfl) (of_decide_eq_true (by kernel_rfl)) k0 bel lt0) (trodAll_cons_mk (shut_int Try.underlying3 w1) trodAll_mk0)), rfl, bel.frame _, fun h => by cases h⟩

theorem over : Rows.mergeSetAsReferenceRow.holds Try.pinned (OpenSpec.ofChange Rows.mergeSetAsReferenceSpec) :=
  OpenClaim.holds_of_wide 11 Try.f11 rfl rfl rfl rfl rfl rfl rfl ⟨rfl, rfl, rfl, rfl, rfl⟩ rfl rfl rfl rfl rfl (by kernel_rfl) Try.func11 (by kernel_rfl)
    (of_decide_eq_true (by kernel_rfl)) (by unfold Func.isWrapper; first | (rw [if_pos (by decide +kernel)]; kernel_rfl) | (rw [if_neg (by decide +kernel)]; exact ⟨rfl, rfl⟩))
    (fun os started H enc _ => lifted os started H enc)
theorem proved : Rows.MergeSetAsReferenceSaid := over
#print axioms proved
end Go.Proofs.Ytfddnmibjaibhaa.mergeSetAsReference
