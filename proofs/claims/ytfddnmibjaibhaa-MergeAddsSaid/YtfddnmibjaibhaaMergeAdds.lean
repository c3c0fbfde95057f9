/- MergeAdds returns true at every input: with a further alert two of the alerts are in one group exactly if they were before, or each of their groups has an alert that is close to the further one. No conditions. -/
import Derived.Test.YtfddnmibjaibhaaRows
import Derived.Test.YtfddnmibjaibhaaMN
import Derived.ProofKit
import Derived.OpenShut
import Derived.ChangeOld
import Derived.Below
import Derived.Lib.SmallJoins
namespace Go.Proofs.Ytfddnmibjaibhaa.mergeAdds
open Go.ChangeShapes Go.WideShapes Go.ChangeAt Go.RowKit Go.Joins
set_option linter.unusedVariables false

set_option maxHeartbeats 3200000 in
set_option maxRecDepth 100000 in
theorem walk (w : World) (A : Option Addr) (l : List Al) (cp : Nat) (hz : l.length ≤ maxLen) (hA : RowA w w.heap.size A l) (x : Al) (a2 : Int) (_w2 : (Lit.int .i64 a2).wf = true) :
    Calls Try.prog 9 #[.slice A l.length cp, x.val, .int .i64 a2] w fun e w' => e = .returned (.bool true) ∧ Below w.heap.size w w' := by
  obtain ⟨n, hn⟩ : ∃ n, l.length = n := ⟨_, rfl⟩
  rw [hn] at hz ⊢
  have HN := hid hn
  have HA := hid hA
  have hzm : n ≤ 2 ^ 63 - 1 := hz
  clear hn hA hz
  obtain ⟨t, c1, f, u, a⟩ := x
  have HXV : Hid (Al.val ⟨t, c1, f, u, a⟩ = .agg #[.int .i64 t, .int .i64 c1, .int .i64 f, .int .i64 u, .int .i64 a]) := rfl
  rw [HXV.out]
  obtain ⟨m, hm⟩ : ∃ m, isM a2 = m := ⟨_, rfl⟩
  have HM := hid hm
  clear hm
  by_cases h24 : n ≤ 24
  · go_enter Try.func9, Try.ntmps9
    go_wp2_with fail
    refine (head38_any _).mono ?_
    rintro e w3 ⟨rfl, hb3⟩
    have hc3 : ∀ i, i < 5 → w3.cell? ⟨w.heap.size, 0 + i, none⟩ = (acell ⟨t, c1, f, u, a⟩)[i]? := fun i hi => by
      rw [Nat.zero_add, hb3.cell (p := ⟨w.heap.size, i, none⟩) (by simp), (Bx.new w 52 #[.int .i64 t, .int .i64 c1, .int .i64 f, .int .i64 u, .int .i64 a]).cell i]
      simp [acell]
    have HC3 := hid hc3
    have hs3 : w.heap.size < w3.heap.size := by have := hb3.size; simp at this; omega
    have HB3 := hid (bl (ba (Below.refl _ _) _) hb3)
    clear hb3 hc3
    cases m
    · go_wp2_with fail
      refine (New_bad _ _ HM.out).mono ?_
      rintro e w4 ⟨rfl, rfl⟩
      go_wp2
      go_ret
      exact ⟨rfl, HB3.out⟩
    · go_wp2_with fail
      refine (New_ok _ _ HM.out).mono ?_
      rintro e w4 ⟨rfl, hs4, hb4⟩
      have HS4 := hid hs4
      have HB4 := hid hb4
      clear hs4 hb4
      obtain ⟨p, hp⟩ : ∃ p, w3.heap.size = p := ⟨_, rfl⟩
      rw [hp] at hs3 HS4 HB4
      have HP := hid hp
      rw [hp]
      clear hp
      go_wp2_with fail
      go_loopw [10] (fun i wr => ∃ (k : Nat) (v : Value), k ≤ n ∧ i = .int .i64 (k : Nat) ∧ Hid (SetAt wr p a2 (l.take k) v) ∧ Hid (Below p w3 wr)) (fun i _ => n - (intOf i).toNat)
      case atStart => exact ⟨0, _, Nat.zero_le _, rfl, HS4, HB4⟩
      case round =>
        obtain ⟨k, v, hk, rfl, hS, hB⟩ := hrel
        obtain ⟨wx, hwx⟩ : ∃ wx, wx = wr := ⟨_, rfl⟩
        subst hwx
        by_cases hkn : k < n
        · have hkl : k < l.length := by rw [HN.out]; exact hkn
          obtain ⟨y, hy⟩ : ∃ y, l[k] = y := ⟨_, rfl⟩
          have hlk : l[k]? = some y := by rw [List.getElem?_eq_getElem hkl, hy]
          have htk : l.take (k + 1) = l.take k ++ [y] := by rw [List.take_succ_eq_append_getElem hkl, hy]
          have hlen : (l.take k).length = k := by rw [List.length_take]; omega
          obtain ⟨b, o, rfl, hb, hc⟩ := rowA_cells HA.out (by omega)
          have HC := hid hc
          obtain ⟨y0, y1, y2, y3, y4⟩ := hc k y hlk wx (HB3.out.trans (hB.out.mono (by omega)))
          obtain ⟨V, hV⟩ : ∃ V, isV y = V := ⟨_, rfl⟩
          have HV := hid hV
          have HTK := hid htk
          have HLEN := hid hlen
          have HPL := hS.out.uf.lt
          obtain ⟨r, hr⟩ : ∃ r, (mem (k + 1) (col a2 (l.take k ++ [y])) (col a2 (l.take k ++ [y]) k)).length = r := ⟨_, rfl⟩
          have HR := hid hr
          obtain ⟨t2, c2, f2, u2, s2⟩ := y
          dsimp only at y0 y1 y2 y3 y4
          clear hy hlk htk hlen hc hV hr
          cases V
          · go_wp2_with fail
            refine (Add_bad p ⟨t2, c2, f2, u2, s2⟩ _ HV.out).mono ?_
            rintro e w5 ⟨rfl, hb5⟩
            have HB5 := hid (blp hB.out HP.out hb5)
            clear hb5
            go_wp2
            go_ret
            exact ⟨rfl, HB3.out.trans (HB5.out.mono (by omega))⟩
          · go_wp2_with fail
            refine (Add_at HLEN.out HR.out _ hS.out HV.out (by omega)).mono ?_
            rintro e w5 ⟨rfl, v2, hs5, hf5⟩
            have HS5 : Hid (SetAt w5 p a2 (l.take (k + 1)) v2) := by unfold Hid; rw [HTK.out]; exact hs5
            have HB5 := hid (hS.out.below hB.out (by rw [HP.out]; exact Nat.le_refl _) hf5)
            clear hs5 hf5
            go_wp2
            go_roundw
            case rel => exact ⟨k + 1, v2, by omega, by go_num, HS5, HB5⟩
            case measure => simp [intOf]; omega
        · obtain rfl : k = n := by omega
          have HS5 : Hid (SetAt wx p a2 l v) := by
            have := hS.out
            rwa [List.take_of_length_le (by rw [HN.out]; exact Nat.le_refl _)] at this
          have HK := hid hkn
          clear hS
          obtain ⟨c, hcc⟩ : ∃ c, col a2 l = c := ⟨_, rfl⟩
          have HCC := hid hcc
          obtain ⟨G1, hG1⟩ : ∃ z, (gl k c).length = z := ⟨_, rfl⟩
          have HG1 := hid hG1
          clear hcc hG1
          go_wp2_with fail
          refine (SGroups_at HN.out HCC.out HG1.out _ HS5.out).mono ?_
          rintro e w6 ⟨A6, c6, rfl, hg6, hs6, hf6⟩
          have HG6 := hid hg6
          have HS6 := hid hs6
          have HB6 := hid (Fr.below hB.out hf6 (by rw [HP.out]; exact Nat.le_refl _) (fun q hq => by omega))
          clear hg6 hs6 hf6
          go_wp2_with fail
          refine (of_is HG1.out _ _ HG6.out (Nat.le_refl _) (by omega)).mono ?_
          rintro e w7 ⟨rfl, hr7, hb7⟩
          have HX7 := hid hr7
          have HS7 := hid (HS6.out.kept (K := fun _ => False) ((Fr.refl _ w6).call hb7) (fun _ _ => id))
          have HB7 := hid (blp HB6.out HP.out hb7)
          obtain ⟨X, hX⟩ : ∃ X, w6.heap.size = X := ⟨_, rfl⟩
          have hpX : p < X := by rw [← hX]; exact HS6.out.uf.lt
          have hXw : X < w7.heap.size := by rw [← hX]; exact World.rowIs.lt hr7
          have HVX : Hid (∀ g, v.ownBlock = some g → g < X) := fun g hg => by rw [← hX]; exact (HS6.out.own.lt g hg).2
          rw [hX] at HX7 ⊢
          clear hr7 hb7 hX
          have hc3 := fun i hi => (HB7.out.cell (p := ⟨w.heap.size, 0 + i, none⟩) (by simpa using hs3)).trans (HC3.out i hi)
          have z0 := hc3 0 (by omega)
          have z1 := hc3 1 (by omega)
          have z2 := hc3 2 (by omega)
          have z3 := hc3 3 (by omega)
          have z4 := hc3 4 (by omega)
          simp [acell] at z0 z1 z2 z3 z4
          obtain ⟨V, hV⟩ : ∃ V, isV ⟨t, c1, f, u, a⟩ = V := ⟨_, rfl⟩
          have HV := hid hV
          clear hV hc3
          cases V
          · go_wp2_with fail
            refine (Add_bad p ⟨t, c1, f, u, a⟩ _ HV.out).mono ?_
            rintro e w8 ⟨rfl, hb8⟩
            have HS8 := hid (HS7.out.kept (K := fun _ => False) ((Fr.refl _ w7).call hb8) (fun _ _ => id))
            have HB8 := hid (blp HB7.out HP.out hb8)
            clear hb8
            go_wp2_with fail
            refine (SGroups_at HN.out HCC.out HG1.out _ HS8.out).mono ?_
            rintro e w9 ⟨A9, c9, rfl, hg9, hs9, hf9⟩
            have HG9 := hid hg9
            have HB9 := hid (Fr.below HB8.out hf9 (by rw [HP.out]; exact Nat.le_refl _) (fun q hq => by omega))
            clear hg9 hs9 hf9
            go_wp2_with fail
            refine (of_is HG1.out _ _ HG9.out (Nat.le_refl _) (by omega)).mono ?_
            rintro e wa ⟨rfl, hra, hba⟩
            have HBa := hid (blp HB9.out HP.out hba)
            clear hra hba
            go_wp2
            go_ret
            exact ⟨rfl, HB3.out.trans (HBa.out.mono (by omega))⟩
          · obtain ⟨r, hr⟩ : ∃ r, (mem (k + 1) (col a2 (l ++ [⟨t, c1, f, u, a⟩])) (col a2 (l ++ [⟨t, c1, f, u, a⟩]) k)).length = r := ⟨_, rfl⟩
            have HR := hid hr
            have hm1 := col_more a2 l ⟨t, c1, f, u, a⟩
            have hel := fun (j : Nat) (hj : j < l.length) => edge_last a2 l ⟨t, c1, f, u, a⟩ hj
            obtain ⟨L, hL⟩ : ∃ L, l ++ [(⟨t, c1, f, u, a⟩ : Al)] = L := ⟨_, rfl⟩
            have HLL : Hid (L.length = k + 1) := by unfold Hid; rw [← hL, List.length_append, HN.out]; rfl
            obtain ⟨E, hE⟩ : ∃ E, edge a2 L = E := ⟨_, rfl⟩
            obtain ⟨d, hd⟩ : ∃ d, col a2 L = d := ⟨_, rfl⟩
            have HD := hid hd
            have hms := fun (h : ∀ i, i < k → (d i = d k ↔ tchd E k c i = true)) => more_size h
            rw [hL, hd] at hr
            rw [hL, hd, HCC.out, HN.out, hE] at hm1
            rw [hL, hE] at hel
            have HLW := hid hm1.1
            have HLT := hid hm1.2
            have HEL := hid hel
            have HSZ : Hid (r = 1 + cntT E k c k) := by unfold Hid; rw [← hr]; exact hms hm1.2
            obtain ⟨G2, hG2⟩ : ∃ z, (gl (k + 1) d).length = z := ⟨_, rfl⟩
            have HG2 := hid hG2
            have HLX := hid hL
            clear hr hm1 hel hL hE hd hms hG2
            go_wp2_with fail
            refine (Add_at HN.out HR.out _ HS7.out HV.out (by omega)).mono ?_
            rintro e w8 ⟨rfl, v2, hs8, hf8⟩
            have HS8 : Hid (SetAt w8 p a2 L v2) := by unfold Hid; rw [← HLX.out]; exact hs8
            have HX8 := hid (World.rowIs.of_block HX7.out (hf8.block X hXw (fun h => by
              rcases h with h | h
              · omega
              · have := HVX.out X h; omega)))
            have HB8 := hid (HS7.out.below HB7.out (Nat.le_of_eq HP.out.symm) hf8)
            have hXw8 : X < w8.heap.size := Nat.lt_of_lt_of_le hXw hf8.size
            clear hs8 hf8 HX7 HS7
            go_wp2_with fail
            refine (SGroups_at HLL.out HD.out HG2.out _ HS8.out).mono ?_
            rintro e w9 ⟨A9, c9, rfl, hg9, hs9, hf9⟩
            have HG9 := hid hg9
            have HX9 := hid (World.rowIs.of_block HX8.out (hf9.block X hXw8 (by omega)))
            have HB9 := hid (Fr.below HB8.out hf9 (by rw [HP.out]; exact Nat.le_refl _) (fun q hq => by omega))
            have hXw9 : X < w9.heap.size := Nat.lt_of_lt_of_le hXw8 hf9.size
            clear hg9 hs9 hf9 HX8 HS8
            go_wp2_with fail
            refine (of_at (n := k + 1) (by omega) HG2.out _ _ HG9.out (Nat.le_refl _) (by omega)).mono ?_
            rintro e wt ⟨rfl, hyt, hbt⟩
            have HBt := hid (blp HB9.out HP.out hbt)
            have HXt := hid (World.rowIs.of_block HX9.out (hbt.block X hXw9))
            obtain ⟨Y, hY⟩ : ∃ Y, w9.heap.size = Y := ⟨_, rfl⟩
            have hYw : Y < wt.heap.size := by rw [← hY]; exact World.rowIs.lt hyt
            have hXY : X < Y := by rw [← hY]; exact hXw9
            rw [hY] at hyt ⊢
            have HYt := hid hyt
            clear hyt hbt hY HX9 HG9
            have hmk := run_make_row' (P := Try.prog) 58 4 (.bool false) 1 Try.underlying58 Try.info4 rfl .i64 .i64 k (by omega) (by omega)
            -- what lies below the touched ones, in every world that keeps it
            have KXr : Hid (∀ w1 : World, Below wt.heap.size wt w1 → w1.rowIs X 3 k (fun j => .int .i64 ((idx k c j + 1 : Nat)))) := fun w1 hb => World.rowIs.of_block HXt.out (hb.block X (by omega))
            have KYr : Hid (∀ w1 : World, Below wt.heap.size wt w1 → w1.rowIs Y 3 (k + 1) (fun j => .int .i64 ((idx (k + 1) d j + 1 : Nat)))) := fun w1 hb => World.rowIs.of_block HYt.out (hb.block Y (by omega))
            have KBt : Hid (∀ w1 : World, Below wt.heap.size wt w1 → Below p w3 w1) := fun w1 hb => blp HBt.out HP.out hb
            have KC : Hid (∀ w1 : World, Below wt.heap.size wt w1 → AlAt w1 w.heap.size 0 ⟨t, c1, f, u, a⟩) := fun w1 hb => alAt_of fun i hi => ((KBt.out w1 hb).cell (p := ⟨w.heap.size, 0 + i, none⟩) (by simpa using hs3)).trans (HC3.out i hi)
            have hrow := World.rowIs_made wt (.bool false) k 4
            have HT0 : Hid ((wt.alloc (.cells (madeCells #[.bool false] k) 4)).rowIs wt.heap.size 4 k (fun j => .bool (decide (j < 0) && tchd E k c j))) := World.rowIs.congr hrow fun j _ => by simp
            clear hrow HXt HYt
            go_wp2_with fail
            go_loopw [22, 23] (fun nv iv wr => ∃ i z : Nat, i ≤ k ∧ iv = .int .i64 (i : Nat) ∧ nv = .int .i64 (z : Nat) ∧ Hid (z = 1 + cntT E k c i) ∧ Hid (wr.rowIs wt.heap.size 4 k (fun j => .bool (decide (j < i) && tchd E k c j))) ∧ Hid (Below wt.heap.size wt wr)) (fun _ iv _ => k - (intOf iv).toNat)
            case atStart => exact ⟨0, 1, Nat.zero_le _, rfl, rfl, rfl, HT0, ba (Below.refl _ _) _⟩
            case round =>
              obtain ⟨i, z, hi, rfl, rfl, hzc, hT, hBt⟩ := hrel
              have hz26 : z ≤ 26 := by have := cntT_le E k c i; have := hzc.out; omega
              obtain ⟨wi, hwi⟩ : ∃ wi, wi = wr := ⟨_, rfl⟩
              subst hwi
              by_cases hik : i < k
              · have hil : i < l.length := by rw [HN.out]; exact hik
                obtain ⟨ai, hai⟩ : ∃ z, idx k c i + 1 = z := ⟨_, rfl⟩
                have HAI := hid hai
                have HTi : Hid (wi.rowIs wt.heap.size 4 k (fun j => .bool (if j = i then tp E k c i 0 else (decide (j < i) && tchd E k c j)))) := World.rowIs.congr hT.out fun j _ => by
                  by_cases e : j = i
                  · subst e; simp [tp_zero]
                  · simp [e]
                clear hai hT
                go_wp2_with fail
                go_loopw [24] (fun jv wr => ∃ j : Nat, j ≤ k ∧ jv = .int .i64 (j : Nat) ∧ Hid (wr.rowIs wt.heap.size 4 k (fun q => .bool (if q = i then tp E k c i j else (decide (q < i) && tchd E k c q)))) ∧ Hid (Below wt.heap.size wt wr)) (fun jv _ => k - (intOf jv).toNat)
                case atStart => exact ⟨0, Nat.zero_le _, rfl, HTi, hBt⟩
                case round =>
                  obtain ⟨j, hj, rfl, hT, hB2⟩ := hrel
                  obtain ⟨wy, hwy⟩ : ∃ wy, wy = wr := ⟨_, rfl⟩
                  subst hwy
                  by_cases hjk : j < k
                  · have hjl : j < l.length := by rw [HN.out]; exact hjk
                    obtain ⟨y, hy⟩ : ∃ y, l[j] = y := ⟨_, rfl⟩
                    have hlj : l[j]? = some y := by rw [List.getElem?_eq_getElem hjl, hy]
                    have HVY := hid (HS5.out.ok y (hy ▸ List.getElem_mem hjl))
                    obtain ⟨b, o, rfl, hb, hc⟩ := rowA_cells HA.out (by omega)
                    have KY : Hid (∀ w1 : World, Below wt.heap.size wt w1 → AlAt w1 b (o + j * 5) y) := fun w1 hb1 => hc j y hlj w1 (HB3.out.trans ((KBt.out w1 hb1).mono (by omega)))
                    obtain ⟨q, hq⟩ : ∃ q, cl a2 y ⟨t, c1, f, u, a⟩ = q := ⟨_, rfl⟩
                    have HCL := hid hq
                    have HEJ : Hid (E j k = q) := by unfold Hid; have := HEL.out j hjl; rw [HN.out, hy, hq] at this; exact this
                    obtain ⟨aj, haj⟩ : ∃ z, idx k c j + 1 = z := ⟨_, rfl⟩
                    have KS : Hid (∀ w1 : World, Below wt.heap.size wt w1 → w1.cell? ⟨X, i, none⟩ = some (.int .i64 (ai : Nat)) ∧ w1.cell? ⟨X, j, none⟩ = some (.int .i64 (aj : Nat))) := fun w1 hb1 =>
                      ⟨((KXr.out w1 hb1).cell hik).trans (by rw [← HAI.out]), ((KXr.out w1 hb1).cell hjk).trans (by rw [← haj])⟩
                    have HAJ : Hid (ai = aj ↔ c i = c j) := by unfold Hid; rw [← HAI.out, ← haj, ← idx_eq hik hjk]; omega
                    have hci := hT.out.cell hik
                    rw [if_pos rfl] at hci
                    have ffi := World.rowIs.frozen hT.out i
                    obtain ⟨t0, ht0⟩ : ∃ z, tp E k c i j = z := ⟨_, rfl⟩
                    rw [ht0] at hci
                    have HT0v := hid ht0
                    have HTN : Hid (∀ v : Bool, tp E k c i (j + 1) = v → ∀ w1 : World, w1.rowIs wt.heap.size 4 k (fun q => .bool (if q = i then tp E k c i j else (decide (q < i) && tchd E k c q))) → (w1.setCell ⟨wt.heap.size, i, none⟩ (.bool v)).rowIs wt.heap.size 4 k (fun q => .bool (if q = i then tp E k c i (j + 1) else (decide (q < i) && tchd E k c q)))) := by
                      intro v hv w1 h1
                      refine (World.rowIs.set h1 i (.bool v)).congr fun q _ => ?_
                      by_cases e : q = i
                      · simp [e, hv]
                      · simp [e]
                    have i0 : (0 : Int) ≤ (i : Int) := by omega
                    have i1 : (i : Int) < (k : Int) := by omega
                    have j0 : (0 : Int) ≤ (j : Int) := by omega
                    have j1 : (j : Int) < (k : Int) := by omega
                    obtain ⟨t2, c2, f2, u2, s2⟩ := y
                    clear hy hlj hc hq haj ht0
                    cases t0
                    · by_cases hij : ai = aj
                      · have hcc := HAJ.out.1 hij
                        subst hij
                        cases q
                        · have HV2 := hid (HTN.out false (by rw [tp_succ, HT0v.out, HEJ.out]; simp))
                          clear HTN HAJ hcc
                          go_wp2_with fail
                          refine wp_region_held_drew (S := fun w1 => Below wt.heap.size wt w1) (by kernel_rfl) (bdr hB2.out) (fun hHeld => ?_)
                          refine wpAnyH_take (i := 0) (v := ?vvc0) rfl (by kernel_rfl) (by kernel_rfl) (by kernel_rfl) (fun _ _ _ h => h) (Or.inl ⟨by rfl, ?hyc0⟩) (by assumption) ?restc0
                          case hyc0 => (intro w0 hw0; go_simp; try with_reducible rfl)
                          try simp only [Act.put, List.setIfInBounds_toArray, List.set_cons_zero, List.set_cons_succ, List.getElem_toArray, List.getElem_cons_zero]
                          refine wpAnyH_take (i := 1) (v := ?vvc1) rfl (by kernel_rfl) (by kernel_rfl) (by kernel_rfl) (fun _ _ _ h => h) (Or.inl ⟨by rfl, ?hyc1⟩) (by assumption) ?restc1
                          case hyc1 => (intro w0 hw0; go_simp; try with_reducible rfl)
                          try simp only [Act.put, List.setIfInBounds_toArray, List.set_cons_zero, List.set_cons_succ, List.getElem_toArray, List.getElem_cons_zero, List.getElem_cons_succ]
                          refine wpAnyH_take (i := 2) (v := ?vvc2) rfl (by kernel_rfl) (by kernel_rfl) (by kernel_rfl) (fun _ _ _ h => h) (Or.inl ⟨by rfl, ?hyc2⟩) (by assumption) ?restc2
                          case hyc2 => (intro w0 hw0; go_simp; try with_reducible rfl)
                          try simp only [Act.put, List.setIfInBounds_toArray, List.set_cons_zero, List.set_cons_succ, List.getElem_toArray, List.getElem_cons_zero, List.getElem_cons_succ]
                          refine wpAnyH_take (i := 3) (v := ?vvc3) rfl (by kernel_rfl) (by kernel_rfl) (by kernel_rfl) (fun _ _ _ h => h) (Or.inl ⟨by rfl, ?hyc3⟩) (by assumption) ?restc3
                          case hyc3 => (intro w0 hw0; go_simp; try with_reducible rfl)
                          try simp only [Act.put, List.setIfInBounds_toArray, List.set_cons_zero, List.set_cons_succ, List.getElem_toArray, List.getElem_cons_zero, List.getElem_cons_succ]
                          refine wpAnyH_take (i := 4) (v := ?vvc4) rfl (by kernel_rfl) (by kernel_rfl) (by kernel_rfl) (fun _ _ _ h => h) (Or.inl ⟨by rfl, ?hyc4⟩) (by assumption) ?restc4
                          case hyc4 => (intro w0 hw0; go_simp; try with_reducible rfl)
                          try simp only [Act.put, List.setIfInBounds_toArray, List.set_cons_zero, List.set_cons_succ, List.getElem_toArray, List.getElem_cons_zero, List.getElem_cons_succ]
                          refine wpAnyH_ready (rs := [5]) (by kernel_rfl) (by simp) (AllReadyH.cons rfl (fun K hK => ?_) AllReadyH.nil)
                          go_simp
                          refine hK.out _ _ (by first | exact bdr hB2.out | exact hHeld | assumption) (fun hHeld => ?_)
                          clear hK K
                          try simp only [Act.put, List.setIfInBounds_toArray, List.set_cons_zero, List.set_cons_succ, List.getElem_toArray, List.getElem_cons_zero, List.getElem_cons_succ]
                          refine wpAnyH_take (i := 6) (v := ?vvc6) rfl (by kernel_rfl) (by kernel_rfl) (by kernel_rfl) (fun _ _ _ h => h) (Or.inl ⟨by rfl, ?hyc6⟩) (by assumption) ?restc6
                          case hyc6 => (intro w0 hw0; go_simp; try with_reducible rfl)
                          try simp only [Act.put, List.setIfInBounds_toArray, List.set_cons_zero, List.set_cons_succ, List.getElem_toArray, List.getElem_cons_zero, List.getElem_cons_succ]
                          refine wpAnyH_take (i := 7) (v := ?vvc7) rfl (by kernel_rfl) (by kernel_rfl) (by kernel_rfl) (fun _ _ _ h => h) (Or.inl ⟨by rfl, ?hyc7⟩) (by assumption) ?restc7
                          case hyc7 => (intro w0 hw0; go_simp; try with_reducible rfl)
                          try simp only [Act.put, List.setIfInBounds_toArray, List.set_cons_zero, List.set_cons_succ, List.getElem_toArray, List.getElem_cons_zero, List.getElem_cons_succ]
                          refine wpAnyH_take (i := 8) (v := ?vvc8) rfl (by kernel_rfl) (by kernel_rfl) (by kernel_rfl) (fun _ _ _ h => h) (Or.inl ⟨by rfl, ?hyc8⟩) (by assumption) ?restc8
                          case hyc8 => (intro w0 hw0; go_simp; try with_reducible rfl)
                          try simp only [Act.put, List.setIfInBounds_toArray, List.set_cons_zero, List.set_cons_succ, List.getElem_toArray, List.getElem_cons_zero, List.getElem_cons_succ]
                          refine wpAnyH_take (i := 9) (v := ?vvc9) rfl (by kernel_rfl) (by kernel_rfl) (by kernel_rfl) (fun _ _ _ h => h) (Or.inl ⟨by rfl, ?hyc9⟩) (by assumption) ?restc9
                          case hyc9 => (intro w0 hw0; go_simp; try with_reducible rfl)
                          try simp only [Act.put, List.setIfInBounds_toArray, List.set_cons_zero, List.set_cons_succ, List.getElem_toArray, List.getElem_cons_zero, List.getElem_cons_succ]
                          refine wpAnyH_take (i := 10) (v := ?vvc10) rfl (by kernel_rfl) (by kernel_rfl) (by kernel_rfl) (fun _ _ _ h => h) (Or.inl ⟨by rfl, ?hyc10⟩) (by assumption) ?restc10
                          case hyc10 => (intro w0 hw0; obtain ⟨x0, x1⟩ := KS.out _ hw0; go_simp; try with_reducible rfl)
                          try simp only [Act.put, List.setIfInBounds_toArray, List.set_cons_zero, List.set_cons_succ, List.getElem_toArray, List.getElem_cons_zero, List.getElem_cons_succ]
                          refine wpAnyH_take (i := 11) (v := ?vvc11) rfl (by kernel_rfl) (by kernel_rfl) (by kernel_rfl) (fun _ _ _ h => h) (Or.inl ⟨by rfl, ?hyc11⟩) (by assumption) ?restc11
                          case hyc11 => (intro w0 hw0; go_simp; try with_reducible rfl)
                          try simp only [Act.put, List.setIfInBounds_toArray, List.set_cons_zero, List.set_cons_succ, List.getElem_toArray, List.getElem_cons_zero, List.getElem_cons_succ]
                          refine wpAnyH_take (i := 12) (v := ?vvc12) rfl (by kernel_rfl) (by kernel_rfl) (by kernel_rfl) (fun _ _ _ h => h) (Or.inl ⟨by rfl, ?hyc12⟩) (by assumption) ?restc12
                          case hyc12 => (intro w0 hw0; go_simp; try with_reducible rfl)
                          try simp only [Act.put, List.setIfInBounds_toArray, List.set_cons_zero, List.set_cons_succ, List.getElem_toArray, List.getElem_cons_zero, List.getElem_cons_succ]
                          refine wpAnyH_take (i := 13) (v := ?vvc13) rfl (by kernel_rfl) (by kernel_rfl) (by kernel_rfl) (fun _ _ _ h => h) (Or.inl ⟨by rfl, ?hyc13⟩) (by assumption) ?restc13
                          case hyc13 => (intro w0 hw0; go_simp; try with_reducible rfl)
                          try simp only [Act.put, List.setIfInBounds_toArray, List.set_cons_zero, List.set_cons_succ, List.getElem_toArray, List.getElem_cons_zero, List.getElem_cons_succ]
                          refine wpAnyH_take (i := 14) (v := ?vvc14) rfl (by kernel_rfl) (by kernel_rfl) (by kernel_rfl) (fun _ _ _ h => h) (Or.inl ⟨by rfl, ?hyc14⟩) (by assumption) ?restc14
                          case hyc14 => (intro w0 hw0; obtain ⟨x0, x1⟩ := KS.out _ hw0; go_simp; try with_reducible rfl)
                          try simp only [Act.put, List.setIfInBounds_toArray, List.set_cons_zero, List.set_cons_succ, List.getElem_toArray, List.getElem_cons_zero, List.getElem_cons_succ]
                          refine wpAnyH_take (i := 15) (v := ?vvc15) rfl (by kernel_rfl) (by kernel_rfl) (by kernel_rfl) (fun _ _ _ h => h) (Or.inl ⟨by rfl, ?hyc15⟩) (by assumption) ?restc15
                          case hyc15 => (intro w0 hw0; go_simp; try with_reducible rfl)
                          try simp only [Act.put, List.setIfInBounds_toArray, List.set_cons_zero, List.set_cons_succ, List.getElem_toArray, List.getElem_cons_zero, List.getElem_cons_succ]
                          refine wpAnyH_take (i := 16) (v := ?vvc16) rfl (by kernel_rfl) (by kernel_rfl) (by kernel_rfl) (fun _ _ _ h => h) (Or.inl ⟨by rfl, ?hyc16⟩) (by assumption) ?restc16
                          case hyc16 => (intro w0 hw0; go_simp; try with_reducible rfl)
                          try simp only [Act.put, List.setIfInBounds_toArray, List.set_cons_zero, List.set_cons_succ, List.getElem_toArray, List.getElem_cons_zero, List.getElem_cons_succ]
                          refine wpAnyH_take (i := 17) (v := ?vvc17) rfl (by kernel_rfl) (by kernel_rfl) (by kernel_rfl) (fun _ _ _ h => h) (Or.inl ⟨by rfl, ?hyc17⟩) (by assumption) ?restc17
                          case hyc17 => (intro w0 hw0; go_simp; try with_reducible rfl)
                          try simp only [Act.put, List.setIfInBounds_toArray, List.set_cons_zero, List.set_cons_succ, List.getElem_toArray, List.getElem_cons_zero, List.getElem_cons_succ]
                          refine wpAnyH_take (i := 18) (v := ?vvc18) rfl (by kernel_rfl) (by kernel_rfl) (by kernel_rfl) (fun _ _ _ h => h) (Or.inl ⟨by rfl, ?hyc18⟩) (by assumption) ?restc18
                          case hyc18 => (intro w0 hw0; go_simp; try with_reducible rfl)
                          try simp only [Act.put, List.setIfInBounds_toArray, List.set_cons_zero, List.set_cons_succ, List.getElem_toArray, List.getElem_cons_zero, List.getElem_cons_succ]
                          refine wpAnyH_take (i := 19) (v := ?vvc19) rfl (by kernel_rfl) (by kernel_rfl) (by kernel_rfl) (fun _ _ _ h => h) (Or.inl ⟨by rfl, ?hyc19⟩) (by assumption) ?restc19
                          case hyc19 => (intro w0 hw0; go_simp; try with_reducible rfl)
                          try simp only [Act.put, List.setIfInBounds_toArray, List.set_cons_zero, List.set_cons_succ, List.getElem_toArray, List.getElem_cons_zero, List.getElem_cons_succ]
                          refine wpAnyH_take (i := 20) (v := ?vvc20) rfl (by kernel_rfl) (by kernel_rfl) (by kernel_rfl) (fun _ _ _ h => h) (Or.inl ⟨by rfl, ?hyc20⟩) (by assumption) ?restc20
                          case hyc20 => (intro w0 hw0; obtain ⟨y0, y1, y2, y3, y4⟩ := KY.out _ hw0; dsimp only at y0 y1 y2 y3 y4; go_simp; try with_reducible rfl)
                          try simp only [Act.put, List.setIfInBounds_toArray, List.set_cons_zero, List.set_cons_succ, List.getElem_toArray, List.getElem_cons_zero, List.getElem_cons_succ]
                          refine wpAnyH_take (i := 21) (v := ?vvc21) rfl (by kernel_rfl) (by kernel_rfl) (by kernel_rfl) (fun _ _ _ h => h) (Or.inl ⟨by rfl, ?hyc21⟩) (by assumption) ?restc21
                          case hyc21 => (intro w0 hw0; obtain ⟨z0, z1, z2, z3, z4⟩ := KC.out _ hw0; dsimp only [Nat.zero_add] at z0 z1 z2 z3 z4; go_simp; try with_reducible rfl)
                          try simp only [Act.put, List.setIfInBounds_toArray, List.set_cons_zero, List.set_cons_succ, List.getElem_toArray, List.getElem_cons_zero, List.getElem_cons_succ]
                          refine wpAnyH_take (i := 22) (v := ?vvc22) rfl (by kernel_rfl) (by kernel_rfl) (by kernel_rfl) (fun _ _ _ h => h) (Or.inl ⟨by rfl, ?hyc22⟩) (by assumption) ?restc22
                          case hyc22 => (intro w0 hw0; go_simp; try with_reducible rfl)
                          try simp only [Act.put, List.setIfInBounds_toArray, List.set_cons_zero, List.set_cons_succ, List.getElem_toArray, List.getElem_cons_zero, List.getElem_cons_succ]
                          refine wpAnyH_ready (rs := [23]) (by kernel_rfl) (by simp) (AllReadyH.cons rfl (fun K hK => ?_) AllReadyH.nil)
                          go_simp
                          refine (close_at HCL.out HVY.out HV.out (Nat.le_refl wy.heap.size) (bdr (Below.refl _ _))).mono ?_; rintro e w7 ⟨rfl, hb7⟩; have HT7 := hid (World.rowIs.of_block hT.out (hb7.block _ (World.rowIs.lt hT.out))); have c7 := HT7.out.cell hik; rw [if_pos rfl, HT0v.out] at c7; have f7 := World.rowIs.frozen HT7.out i; try (go_wp2_with fail)
                          refine hK.out _ _ (hB2.out.trans (hb7.mono hB2.out.size)) (fun hHeld => ?_)
                          clear hK K
                          try simp only [Act.put, List.setIfInBounds_toArray, List.set_cons_zero, List.set_cons_succ, List.getElem_toArray, List.getElem_cons_zero, List.getElem_cons_succ]
                          refine wpAnyH_take (i := 24) (v := ?vvc24) rfl (by kernel_rfl) (by kernel_rfl) (by kernel_rfl) (fun _ _ _ h => h) (Or.inl ⟨by rfl, ?hyc24⟩) (by assumption) ?restc24
                          case hyc24 => (intro w0 hw0; go_simp; try with_reducible rfl)
                          try simp only [Act.put, List.setIfInBounds_toArray, List.set_cons_zero, List.set_cons_succ, List.getElem_toArray, List.getElem_cons_zero, List.getElem_cons_succ]
                          refine wpAnyH_take (i := 25) (v := ?vvc25) rfl (by kernel_rfl) (by kernel_rfl) (by kernel_rfl) (fun _ _ _ h => h) (Or.inl ⟨by rfl, ?hyc25⟩) (by assumption) ?restc25
                          case hyc25 => (intro w0 hw0; go_simp; try with_reducible rfl)
                          try simp only [Act.put, List.setIfInBounds_toArray, List.set_cons_zero, List.set_cons_succ, List.getElem_toArray, List.getElem_cons_zero, List.getElem_cons_succ]
                          refine wpAnyH_take (i := 26) (v := ?vvc26) rfl (by kernel_rfl) (by kernel_rfl) (by kernel_rfl) (fun _ _ _ h => h) (Or.inl ⟨by rfl, ?hyc26⟩) (by assumption) ?restc26
                          case hyc26 => (intro w0 hw0; go_simp; try with_reducible rfl)
                          try simp only [Act.put, List.setIfInBounds_toArray, List.set_cons_zero, List.set_cons_succ, List.getElem_toArray, List.getElem_cons_zero, List.getElem_cons_succ]
                          refine wpAnyH_ready (rs := [27]) (by kernel_rfl) (by simp) (AllReadyH.cons rfl (fun K hK => ?_) AllReadyH.nil)
                          go_simp
                          refine hK.out _ _ (by first | exact (bdr hB2.out).setCell (Nat.le_refl _) _ | exact bdr (hB2.out.setCell (Nat.le_refl _) _) | exact hHeld.setCell (Nat.le_refl _) _) (fun hHeld => ?_)
                          clear hK K
                          try simp only [Act.put, List.setIfInBounds_toArray, List.set_cons_zero, List.set_cons_succ, List.getElem_toArray, List.getElem_cons_zero, List.getElem_cons_succ]
                          refine wpAnyH_done (by kernel_rfl) ?_ _
                          have HB8 := hid hHeld
                          have HT8 := hid (HV2.out _ HT7.out)
                          clear hHeld HT7 hb7 c7 f7 hci ffi
                          go_wp2
                          go_roundw
                          case rel => exact ⟨j + 1, by omega, by go_num, HT8, HB8⟩
                          case measure => simp [intOf]; omega
                        · have HV2 := hid (HTN.out true (by rw [tp_succ, HT0v.out, HEJ.out]; simp [hcc]))
                          clear HTN HAJ hcc
                          go_wp2_with fail
                          refine wp_region_held_drew (S := fun w1 => Below wt.heap.size wt w1) (by kernel_rfl) (bdr hB2.out) (fun hHeld => ?_)
                          refine wpAnyH_take (i := 0) (v := ?vvd0) rfl (by kernel_rfl) (by kernel_rfl) (by kernel_rfl) (fun _ _ _ h => h) (Or.inl ⟨by rfl, ?hyd0⟩) (by assumption) ?restd0
                          case hyd0 => (intro w0 hw0; go_simp; try with_reducible rfl)
                          try simp only [Act.put, List.setIfInBounds_toArray, List.set_cons_zero, List.set_cons_succ, List.getElem_toArray, List.getElem_cons_zero]
                          refine wpAnyH_take (i := 1) (v := ?vvd1) rfl (by kernel_rfl) (by kernel_rfl) (by kernel_rfl) (fun _ _ _ h => h) (Or.inl ⟨by rfl, ?hyd1⟩) (by assumption) ?restd1
                          case hyd1 => (intro w0 hw0; go_simp; try with_reducible rfl)
                          try simp only [Act.put, List.setIfInBounds_toArray, List.set_cons_zero, List.set_cons_succ, List.getElem_toArray, List.getElem_cons_zero, List.getElem_cons_succ]
                          refine wpAnyH_take (i := 2) (v := ?vvd2) rfl (by kernel_rfl) (by kernel_rfl) (by kernel_rfl) (fun _ _ _ h => h) (Or.inl ⟨by rfl, ?hyd2⟩) (by assumption) ?restd2
                          case hyd2 => (intro w0 hw0; go_simp; try with_reducible rfl)
                          try simp only [Act.put, List.setIfInBounds_toArray, List.set_cons_zero, List.set_cons_succ, List.getElem_toArray, List.getElem_cons_zero, List.getElem_cons_succ]
                          refine wpAnyH_take (i := 3) (v := ?vvd3) rfl (by kernel_rfl) (by kernel_rfl) (by kernel_rfl) (fun _ _ _ h => h) (Or.inl ⟨by rfl, ?hyd3⟩) (by assumption) ?restd3
                          case hyd3 => (intro w0 hw0; go_simp; try with_reducible rfl)
                          try simp only [Act.put, List.setIfInBounds_toArray, List.set_cons_zero, List.set_cons_succ, List.getElem_toArray, List.getElem_cons_zero, List.getElem_cons_succ]
                          refine wpAnyH_take (i := 4) (v := ?vvd4) rfl (by kernel_rfl) (by kernel_rfl) (by kernel_rfl) (fun _ _ _ h => h) (Or.inl ⟨by rfl, ?hyd4⟩) (by assumption) ?restd4
                          case hyd4 => (intro w0 hw0; go_simp; try with_reducible rfl)
                          try simp only [Act.put, List.setIfInBounds_toArray, List.set_cons_zero, List.set_cons_succ, List.getElem_toArray, List.getElem_cons_zero, List.getElem_cons_succ]
                          refine wpAnyH_ready (rs := [5]) (by kernel_rfl) (by simp) (AllReadyH.cons rfl (fun K hK => ?_) AllReadyH.nil)
                          go_simp
                          refine hK.out _ _ (by first | exact bdr hB2.out | exact hHeld | assumption) (fun hHeld => ?_)
                          clear hK K
                          try simp only [Act.put, List.setIfInBounds_toArray, List.set_cons_zero, List.set_cons_succ, List.getElem_toArray, List.getElem_cons_zero, List.getElem_cons_succ]
                          refine wpAnyH_take (i := 6) (v := ?vvd6) rfl (by kernel_rfl) (by kernel_rfl) (by kernel_rfl) (fun _ _ _ h => h) (Or.inl ⟨by rfl, ?hyd6⟩) (by assumption) ?restd6
                          case hyd6 => (intro w0 hw0; go_simp; try with_reducible rfl)
                          try simp only [Act.put, List.setIfInBounds_toArray, List.set_cons_zero, List.set_cons_succ, List.getElem_toArray, List.getElem_cons_zero, List.getElem_cons_succ]
                          refine wpAnyH_take (i := 7) (v := ?vvd7) rfl (by kernel_rfl) (by kernel_rfl) (by kernel_rfl) (fun _ _ _ h => h) (Or.inl ⟨by rfl, ?hyd7⟩) (by assumption) ?restd7
                          case hyd7 => (intro w0 hw0; go_simp; try with_reducible rfl)
                          try simp only [Act.put, List.setIfInBounds_toArray, List.set_cons_zero, List.set_cons_succ, List.getElem_toArray, List.getElem_cons_zero, List.getElem_cons_succ]
                          refine wpAnyH_take (i := 8) (v := ?vvd8) rfl (by kernel_rfl) (by kernel_rfl) (by kernel_rfl) (fun _ _ _ h => h) (Or.inl ⟨by rfl, ?hyd8⟩) (by assumption) ?restd8
                          case hyd8 => (intro w0 hw0; go_simp; try with_reducible rfl)
                          try simp only [Act.put, List.setIfInBounds_toArray, List.set_cons_zero, List.set_cons_succ, List.getElem_toArray, List.getElem_cons_zero, List.getElem_cons_succ]
                          refine wpAnyH_take (i := 9) (v := ?vvd9) rfl (by kernel_rfl) (by kernel_rfl) (by kernel_rfl) (fun _ _ _ h => h) (Or.inl ⟨by rfl, ?hyd9⟩) (by assumption) ?restd9
                          case hyd9 => (intro w0 hw0; go_simp; try with_reducible rfl)
                          try simp only [Act.put, List.setIfInBounds_toArray, List.set_cons_zero, List.set_cons_succ, List.getElem_toArray, List.getElem_cons_zero, List.getElem_cons_succ]
                          refine wpAnyH_take (i := 10) (v := ?vvd10) rfl (by kernel_rfl) (by kernel_rfl) (by kernel_rfl) (fun _ _ _ h => h) (Or.inl ⟨by rfl, ?hyd10⟩) (by assumption) ?restd10
                          case hyd10 => (intro w0 hw0; obtain ⟨x0, x1⟩ := KS.out _ hw0; go_simp; try with_reducible rfl)
                          try simp only [Act.put, List.setIfInBounds_toArray, List.set_cons_zero, List.set_cons_succ, List.getElem_toArray, List.getElem_cons_zero, List.getElem_cons_succ]
                          refine wpAnyH_take (i := 11) (v := ?vvd11) rfl (by kernel_rfl) (by kernel_rfl) (by kernel_rfl) (fun _ _ _ h => h) (Or.inl ⟨by rfl, ?hyd11⟩) (by assumption) ?restd11
                          case hyd11 => (intro w0 hw0; go_simp; try with_reducible rfl)
                          try simp only [Act.put, List.setIfInBounds_toArray, List.set_cons_zero, List.set_cons_succ, List.getElem_toArray, List.getElem_cons_zero, List.getElem_cons_succ]
                          refine wpAnyH_take (i := 12) (v := ?vvd12) rfl (by kernel_rfl) (by kernel_rfl) (by kernel_rfl) (fun _ _ _ h => h) (Or.inl ⟨by rfl, ?hyd12⟩) (by assumption) ?restd12
                          case hyd12 => (intro w0 hw0; go_simp; try with_reducible rfl)
                          try simp only [Act.put, List.setIfInBounds_toArray, List.set_cons_zero, List.set_cons_succ, List.getElem_toArray, List.getElem_cons_zero, List.getElem_cons_succ]
                          refine wpAnyH_take (i := 13) (v := ?vvd13) rfl (by kernel_rfl) (by kernel_rfl) (by kernel_rfl) (fun _ _ _ h => h) (Or.inl ⟨by rfl, ?hyd13⟩) (by assumption) ?restd13
                          case hyd13 => (intro w0 hw0; go_simp; try with_reducible rfl)
                          try simp only [Act.put, List.setIfInBounds_toArray, List.set_cons_zero, List.set_cons_succ, List.getElem_toArray, List.getElem_cons_zero, List.getElem_cons_succ]
                          refine wpAnyH_take (i := 14) (v := ?vvd14) rfl (by kernel_rfl) (by kernel_rfl) (by kernel_rfl) (fun _ _ _ h => h) (Or.inl ⟨by rfl, ?hyd14⟩) (by assumption) ?restd14
                          case hyd14 => (intro w0 hw0; obtain ⟨x0, x1⟩ := KS.out _ hw0; go_simp; try with_reducible rfl)
                          try simp only [Act.put, List.setIfInBounds_toArray, List.set_cons_zero, List.set_cons_succ, List.getElem_toArray, List.getElem_cons_zero, List.getElem_cons_succ]
                          refine wpAnyH_take (i := 15) (v := ?vvd15) rfl (by kernel_rfl) (by kernel_rfl) (by kernel_rfl) (fun _ _ _ h => h) (Or.inl ⟨by rfl, ?hyd15⟩) (by assumption) ?restd15
                          case hyd15 => (intro w0 hw0; go_simp; try with_reducible rfl)
                          try simp only [Act.put, List.setIfInBounds_toArray, List.set_cons_zero, List.set_cons_succ, List.getElem_toArray, List.getElem_cons_zero, List.getElem_cons_succ]
                          refine wpAnyH_take (i := 16) (v := ?vvd16) rfl (by kernel_rfl) (by kernel_rfl) (by kernel_rfl) (fun _ _ _ h => h) (Or.inl ⟨by rfl, ?hyd16⟩) (by assumption) ?restd16
                          case hyd16 => (intro w0 hw0; go_simp; try with_reducible rfl)
                          try simp only [Act.put, List.setIfInBounds_toArray, List.set_cons_zero, List.set_cons_succ, List.getElem_toArray, List.getElem_cons_zero, List.getElem_cons_succ]
                          refine wpAnyH_take (i := 17) (v := ?vvd17) rfl (by kernel_rfl) (by kernel_rfl) (by kernel_rfl) (fun _ _ _ h => h) (Or.inl ⟨by rfl, ?hyd17⟩) (by assumption) ?restd17
                          case hyd17 => (intro w0 hw0; go_simp; try with_reducible rfl)
                          try simp only [Act.put, List.setIfInBounds_toArray, List.set_cons_zero, List.set_cons_succ, List.getElem_toArray, List.getElem_cons_zero, List.getElem_cons_succ]
                          refine wpAnyH_take (i := 18) (v := ?vvd18) rfl (by kernel_rfl) (by kernel_rfl) (by kernel_rfl) (fun _ _ _ h => h) (Or.inl ⟨by rfl, ?hyd18⟩) (by assumption) ?restd18
                          case hyd18 => (intro w0 hw0; go_simp; try with_reducible rfl)
                          try simp only [Act.put, List.setIfInBounds_toArray, List.set_cons_zero, List.set_cons_succ, List.getElem_toArray, List.getElem_cons_zero, List.getElem_cons_succ]
                          refine wpAnyH_take (i := 19) (v := ?vvd19) rfl (by kernel_rfl) (by kernel_rfl) (by kernel_rfl) (fun _ _ _ h => h) (Or.inl ⟨by rfl, ?hyd19⟩) (by assumption) ?restd19
                          case hyd19 => (intro w0 hw0; go_simp; try with_reducible rfl)
                          try simp only [Act.put, List.setIfInBounds_toArray, List.set_cons_zero, List.set_cons_succ, List.getElem_toArray, List.getElem_cons_zero, List.getElem_cons_succ]
                          refine wpAnyH_take (i := 20) (v := ?vvd20) rfl (by kernel_rfl) (by kernel_rfl) (by kernel_rfl) (fun _ _ _ h => h) (Or.inl ⟨by rfl, ?hyd20⟩) (by assumption) ?restd20
                          case hyd20 => (intro w0 hw0; obtain ⟨y0, y1, y2, y3, y4⟩ := KY.out _ hw0; dsimp only at y0 y1 y2 y3 y4; go_simp; try with_reducible rfl)
                          try simp only [Act.put, List.setIfInBounds_toArray, List.set_cons_zero, List.set_cons_succ, List.getElem_toArray, List.getElem_cons_zero, List.getElem_cons_succ]
                          refine wpAnyH_take (i := 21) (v := ?vvd21) rfl (by kernel_rfl) (by kernel_rfl) (by kernel_rfl) (fun _ _ _ h => h) (Or.inl ⟨by rfl, ?hyd21⟩) (by assumption) ?restd21
                          case hyd21 => (intro w0 hw0; obtain ⟨z0, z1, z2, z3, z4⟩ := KC.out _ hw0; dsimp only [Nat.zero_add] at z0 z1 z2 z3 z4; go_simp; try with_reducible rfl)
                          try simp only [Act.put, List.setIfInBounds_toArray, List.set_cons_zero, List.set_cons_succ, List.getElem_toArray, List.getElem_cons_zero, List.getElem_cons_succ]
                          refine wpAnyH_take (i := 22) (v := ?vvd22) rfl (by kernel_rfl) (by kernel_rfl) (by kernel_rfl) (fun _ _ _ h => h) (Or.inl ⟨by rfl, ?hyd22⟩) (by assumption) ?restd22
                          case hyd22 => (intro w0 hw0; go_simp; try with_reducible rfl)
                          try simp only [Act.put, List.setIfInBounds_toArray, List.set_cons_zero, List.set_cons_succ, List.getElem_toArray, List.getElem_cons_zero, List.getElem_cons_succ]
                          refine wpAnyH_ready (rs := [23]) (by kernel_rfl) (by simp) (AllReadyH.cons rfl (fun K hK => ?_) AllReadyH.nil)
                          go_simp
                          refine (close_at HCL.out HVY.out HV.out (Nat.le_refl wy.heap.size) (bdr (Below.refl _ _))).mono ?_; rintro e w7 ⟨rfl, hb7⟩; have HT7 := hid (World.rowIs.of_block hT.out (hb7.block _ (World.rowIs.lt hT.out))); have c7 := HT7.out.cell hik; rw [if_pos rfl, HT0v.out] at c7; have f7 := World.rowIs.frozen HT7.out i; try (go_wp2_with fail)
                          refine hK.out _ _ (hB2.out.trans (hb7.mono hB2.out.size)) (fun hHeld => ?_)
                          clear hK K
                          try simp only [Act.put, List.setIfInBounds_toArray, List.set_cons_zero, List.set_cons_succ, List.getElem_toArray, List.getElem_cons_zero, List.getElem_cons_succ]
                          refine wpAnyH_take (i := 24) (v := ?vvd24) rfl (by kernel_rfl) (by kernel_rfl) (by kernel_rfl) (fun _ _ _ h => h) (Or.inl ⟨by rfl, ?hyd24⟩) (by assumption) ?restd24
                          case hyd24 => (intro w0 hw0; go_simp; try with_reducible rfl)
                          try simp only [Act.put, List.setIfInBounds_toArray, List.set_cons_zero, List.set_cons_succ, List.getElem_toArray, List.getElem_cons_zero, List.getElem_cons_succ]
                          refine wpAnyH_take (i := 25) (v := ?vvd25) rfl (by kernel_rfl) (by kernel_rfl) (by kernel_rfl) (fun _ _ _ h => h) (Or.inl ⟨by rfl, ?hyd25⟩) (by assumption) ?restd25
                          case hyd25 => (intro w0 hw0; go_simp; try with_reducible rfl)
                          try simp only [Act.put, List.setIfInBounds_toArray, List.set_cons_zero, List.set_cons_succ, List.getElem_toArray, List.getElem_cons_zero, List.getElem_cons_succ]
                          refine wpAnyH_take (i := 26) (v := ?vvd26) rfl (by kernel_rfl) (by kernel_rfl) (by kernel_rfl) (fun _ _ _ h => h) (Or.inl ⟨by rfl, ?hyd26⟩) (by assumption) ?restd26
                          case hyd26 => (intro w0 hw0; go_simp; try with_reducible rfl)
                          try simp only [Act.put, List.setIfInBounds_toArray, List.set_cons_zero, List.set_cons_succ, List.getElem_toArray, List.getElem_cons_zero, List.getElem_cons_succ]
                          refine wpAnyH_ready (rs := [27]) (by kernel_rfl) (by simp) (AllReadyH.cons rfl (fun K hK => ?_) AllReadyH.nil)
                          go_simp
                          refine hK.out _ _ (by first | exact (bdr hB2.out).setCell (Nat.le_refl _) _ | exact bdr (hB2.out.setCell (Nat.le_refl _) _) | exact hHeld.setCell (Nat.le_refl _) _) (fun hHeld => ?_)
                          clear hK K
                          try simp only [Act.put, List.setIfInBounds_toArray, List.set_cons_zero, List.set_cons_succ, List.getElem_toArray, List.getElem_cons_zero, List.getElem_cons_succ]
                          refine wpAnyH_done (by kernel_rfl) ?_ _
                          have HB8 := hid hHeld
                          have HT8 := hid (HV2.out _ HT7.out)
                          clear hHeld HT7 hb7 c7 f7 hci ffi
                          go_wp2
                          go_roundw
                          case rel => exact ⟨j + 1, by omega, by go_num, HT8, HB8⟩
                          case measure => simp [intOf]; omega
                      · have ex : ((ai : Int) == (aj : Int)) = false := by simp; omega
                        have hcc : ¬ c i = c j := fun h => hij (HAJ.out.2 h)
                        have HV2 := hid (HTN.out false (by rw [tp_succ, HT0v.out]; simp [hcc]))
                        clear HTN HAJ hcc hij
                        go_wp2_with fail
                        refine wp_region_held_drew (S := fun w1 => Below wt.heap.size wt w1) (by kernel_rfl) (bdr hB2.out) (fun hHeld => ?_)
                        refine wpAnyH_take (i := 0) (v := ?vvb0) rfl (by kernel_rfl) (by kernel_rfl) (by kernel_rfl) (fun _ _ _ h => h) (Or.inl ⟨by rfl, ?hyb0⟩) (by assumption) ?restb0
                        case hyb0 => (intro w0 hw0; go_simp; try with_reducible rfl)
                        try simp only [Act.put, List.setIfInBounds_toArray, List.set_cons_zero, List.set_cons_succ, List.getElem_toArray, List.getElem_cons_zero]
                        refine wpAnyH_take (i := 1) (v := ?vvb1) rfl (by kernel_rfl) (by kernel_rfl) (by kernel_rfl) (fun _ _ _ h => h) (Or.inl ⟨by rfl, ?hyb1⟩) (by assumption) ?restb1
                        case hyb1 => (intro w0 hw0; go_simp; try with_reducible rfl)
                        try simp only [Act.put, List.setIfInBounds_toArray, List.set_cons_zero, List.set_cons_succ, List.getElem_toArray, List.getElem_cons_zero, List.getElem_cons_succ]
                        refine wpAnyH_take (i := 2) (v := ?vvb2) rfl (by kernel_rfl) (by kernel_rfl) (by kernel_rfl) (fun _ _ _ h => h) (Or.inl ⟨by rfl, ?hyb2⟩) (by assumption) ?restb2
                        case hyb2 => (intro w0 hw0; go_simp; try with_reducible rfl)
                        try simp only [Act.put, List.setIfInBounds_toArray, List.set_cons_zero, List.set_cons_succ, List.getElem_toArray, List.getElem_cons_zero, List.getElem_cons_succ]
                        refine wpAnyH_take (i := 3) (v := ?vvb3) rfl (by kernel_rfl) (by kernel_rfl) (by kernel_rfl) (fun _ _ _ h => h) (Or.inl ⟨by rfl, ?hyb3⟩) (by assumption) ?restb3
                        case hyb3 => (intro w0 hw0; go_simp; try with_reducible rfl)
                        try simp only [Act.put, List.setIfInBounds_toArray, List.set_cons_zero, List.set_cons_succ, List.getElem_toArray, List.getElem_cons_zero, List.getElem_cons_succ]
                        refine wpAnyH_take (i := 4) (v := ?vvb4) rfl (by kernel_rfl) (by kernel_rfl) (by kernel_rfl) (fun _ _ _ h => h) (Or.inl ⟨by rfl, ?hyb4⟩) (by assumption) ?restb4
                        case hyb4 => (intro w0 hw0; go_simp; try with_reducible rfl)
                        try simp only [Act.put, List.setIfInBounds_toArray, List.set_cons_zero, List.set_cons_succ, List.getElem_toArray, List.getElem_cons_zero, List.getElem_cons_succ]
                        refine wpAnyH_ready (rs := [5]) (by kernel_rfl) (by simp) (AllReadyH.cons rfl (fun K hK => ?_) AllReadyH.nil)
                        go_simp
                        refine hK.out _ _ (by first | exact bdr hB2.out | exact hHeld | assumption) (fun hHeld => ?_)
                        clear hK K
                        try simp only [Act.put, List.setIfInBounds_toArray, List.set_cons_zero, List.set_cons_succ, List.getElem_toArray, List.getElem_cons_zero, List.getElem_cons_succ]
                        refine wpAnyH_take (i := 6) (v := ?vvb6) rfl (by kernel_rfl) (by kernel_rfl) (by kernel_rfl) (fun _ _ _ h => h) (Or.inl ⟨by rfl, ?hyb6⟩) (by assumption) ?restb6
                        case hyb6 => (intro w0 hw0; go_simp; try with_reducible rfl)
                        try simp only [Act.put, List.setIfInBounds_toArray, List.set_cons_zero, List.set_cons_succ, List.getElem_toArray, List.getElem_cons_zero, List.getElem_cons_succ]
                        refine wpAnyH_take (i := 7) (v := ?vvb7) rfl (by kernel_rfl) (by kernel_rfl) (by kernel_rfl) (fun _ _ _ h => h) (Or.inl ⟨by rfl, ?hyb7⟩) (by assumption) ?restb7
                        case hyb7 => (intro w0 hw0; go_simp; try with_reducible rfl)
                        try simp only [Act.put, List.setIfInBounds_toArray, List.set_cons_zero, List.set_cons_succ, List.getElem_toArray, List.getElem_cons_zero, List.getElem_cons_succ]
                        refine wpAnyH_take (i := 8) (v := ?vvb8) rfl (by kernel_rfl) (by kernel_rfl) (by kernel_rfl) (fun _ _ _ h => h) (Or.inl ⟨by rfl, ?hyb8⟩) (by assumption) ?restb8
                        case hyb8 => (intro w0 hw0; go_simp; try with_reducible rfl)
                        try simp only [Act.put, List.setIfInBounds_toArray, List.set_cons_zero, List.set_cons_succ, List.getElem_toArray, List.getElem_cons_zero, List.getElem_cons_succ]
                        refine wpAnyH_take (i := 9) (v := ?vvb9) rfl (by kernel_rfl) (by kernel_rfl) (by kernel_rfl) (fun _ _ _ h => h) (Or.inl ⟨by rfl, ?hyb9⟩) (by assumption) ?restb9
                        case hyb9 => (intro w0 hw0; go_simp; try with_reducible rfl)
                        try simp only [Act.put, List.setIfInBounds_toArray, List.set_cons_zero, List.set_cons_succ, List.getElem_toArray, List.getElem_cons_zero, List.getElem_cons_succ]
                        refine wpAnyH_take (i := 10) (v := ?vvb10) rfl (by kernel_rfl) (by kernel_rfl) (by kernel_rfl) (fun _ _ _ h => h) (Or.inl ⟨by rfl, ?hyb10⟩) (by assumption) ?restb10
                        case hyb10 => (intro w0 hw0; obtain ⟨x0, x1⟩ := KS.out _ hw0; go_simp; try with_reducible rfl)
                        try simp only [Act.put, List.setIfInBounds_toArray, List.set_cons_zero, List.set_cons_succ, List.getElem_toArray, List.getElem_cons_zero, List.getElem_cons_succ]
                        refine wpAnyH_take (i := 11) (v := ?vvb11) rfl (by kernel_rfl) (by kernel_rfl) (by kernel_rfl) (fun _ _ _ h => h) (Or.inl ⟨by rfl, ?hyb11⟩) (by assumption) ?restb11
                        case hyb11 => (intro w0 hw0; go_simp; try with_reducible rfl)
                        try simp only [Act.put, List.setIfInBounds_toArray, List.set_cons_zero, List.set_cons_succ, List.getElem_toArray, List.getElem_cons_zero, List.getElem_cons_succ]
                        refine wpAnyH_take (i := 12) (v := ?vvb12) rfl (by kernel_rfl) (by kernel_rfl) (by kernel_rfl) (fun _ _ _ h => h) (Or.inl ⟨by rfl, ?hyb12⟩) (by assumption) ?restb12
                        case hyb12 => (intro w0 hw0; go_simp; try with_reducible rfl)
                        try simp only [Act.put, List.setIfInBounds_toArray, List.set_cons_zero, List.set_cons_succ, List.getElem_toArray, List.getElem_cons_zero, List.getElem_cons_succ]
                        refine wpAnyH_take (i := 13) (v := ?vvb13) rfl (by kernel_rfl) (by kernel_rfl) (by kernel_rfl) (fun _ _ _ h => h) (Or.inl ⟨by rfl, ?hyb13⟩) (by assumption) ?restb13
                        case hyb13 => (intro w0 hw0; go_simp; try with_reducible rfl)
                        try simp only [Act.put, List.setIfInBounds_toArray, List.set_cons_zero, List.set_cons_succ, List.getElem_toArray, List.getElem_cons_zero, List.getElem_cons_succ]
                        refine wpAnyH_take (i := 14) (v := ?vvb14) rfl (by kernel_rfl) (by kernel_rfl) (by kernel_rfl) (fun _ _ _ h => h) (Or.inl ⟨by rfl, ?hyb14⟩) (by assumption) ?restb14
                        case hyb14 => (intro w0 hw0; obtain ⟨x0, x1⟩ := KS.out _ hw0; go_simp; try with_reducible rfl)
                        try simp only [Act.put, List.setIfInBounds_toArray, List.set_cons_zero, List.set_cons_succ, List.getElem_toArray, List.getElem_cons_zero, List.getElem_cons_succ]
                        refine wpAnyH_take (i := 15) (v := ?vvb15) rfl (by kernel_rfl) (by kernel_rfl) (by kernel_rfl) (fun _ _ _ h => h) (Or.inl ⟨by rfl, ?hyb15⟩) (by assumption) ?restb15
                        case hyb15 => (intro w0 hw0; go_simp; try with_reducible rfl)
                        try simp only [Act.put, List.setIfInBounds_toArray, List.set_cons_zero, List.set_cons_succ, List.getElem_toArray, List.getElem_cons_zero, List.getElem_cons_succ]
                        refine wpAnyH_take (i := 16) (v := ?vvb16) rfl (by kernel_rfl) (by kernel_rfl) (by kernel_rfl) (fun _ _ _ h => h) (Or.inl ⟨by rfl, ?hyb16⟩) (by assumption) ?restb16
                        case hyb16 => (intro w0 hw0; go_simp; try with_reducible rfl)
                        try simp only [Act.put, List.setIfInBounds_toArray, List.set_cons_zero, List.set_cons_succ, List.getElem_toArray, List.getElem_cons_zero, List.getElem_cons_succ]
                        refine wpAnyH_take (i := 17) (v := undef) rfl (by kernel_rfl) (by kernel_rfl) (by kernel_rfl) (fun _ _ _ h => h) (Or.inr ⟨by rfl, rfl⟩) (by assumption) ?_
                        try simp only [Act.put, List.setIfInBounds_toArray, List.set_cons_zero, List.set_cons_succ, List.getElem_toArray, List.getElem_cons_zero, List.getElem_cons_succ]
                        refine wpAnyH_take (i := 18) (v := undef) rfl (by kernel_rfl) (by kernel_rfl) (by kernel_rfl) (fun _ _ _ h => h) (Or.inr ⟨by rfl, rfl⟩) (by assumption) ?_
                        try simp only [Act.put, List.setIfInBounds_toArray, List.set_cons_zero, List.set_cons_succ, List.getElem_toArray, List.getElem_cons_zero, List.getElem_cons_succ]
                        refine wpAnyH_take (i := 19) (v := undef) rfl (by kernel_rfl) (by kernel_rfl) (by kernel_rfl) (fun _ _ _ h => h) (Or.inr ⟨by rfl, rfl⟩) (by assumption) ?_
                        try simp only [Act.put, List.setIfInBounds_toArray, List.set_cons_zero, List.set_cons_succ, List.getElem_toArray, List.getElem_cons_zero, List.getElem_cons_succ]
                        refine wpAnyH_take (i := 20) (v := undef) rfl (by kernel_rfl) (by kernel_rfl) (by kernel_rfl) (fun _ _ _ h => h) (Or.inr ⟨by rfl, rfl⟩) (by assumption) ?_
                        try simp only [Act.put, List.setIfInBounds_toArray, List.set_cons_zero, List.set_cons_succ, List.getElem_toArray, List.getElem_cons_zero, List.getElem_cons_succ]
                        refine wpAnyH_take (i := 21) (v := undef) rfl (by kernel_rfl) (by kernel_rfl) (by kernel_rfl) (fun _ _ _ h => h) (Or.inr ⟨by rfl, rfl⟩) (by assumption) ?_
                        try simp only [Act.put, List.setIfInBounds_toArray, List.set_cons_zero, List.set_cons_succ, List.getElem_toArray, List.getElem_cons_zero, List.getElem_cons_succ]
                        refine wpAnyH_take (i := 22) (v := undef) rfl (by kernel_rfl) (by kernel_rfl) (by kernel_rfl) (fun _ _ _ h => h) (Or.inr ⟨by rfl, rfl⟩) (by assumption) ?_
                        try simp only [Act.put, List.setIfInBounds_toArray, List.set_cons_zero, List.set_cons_succ, List.getElem_toArray, List.getElem_cons_zero, List.getElem_cons_succ]
                        refine wpAnyH_take (i := 23) (v := undef) rfl (by kernel_rfl) (by kernel_rfl) (by kernel_rfl) (fun _ _ _ h => h) (Or.inr ⟨by rfl, rfl⟩) (by assumption) ?_
                        try simp only [Act.put, List.setIfInBounds_toArray, List.set_cons_zero, List.set_cons_succ, List.getElem_toArray, List.getElem_cons_zero, List.getElem_cons_succ]
                        refine wpAnyH_take (i := 24) (v := ?vvb24) rfl (by kernel_rfl) (by kernel_rfl) (by kernel_rfl) (fun _ _ _ h => h) (Or.inl ⟨by rfl, ?hyb24⟩) (by assumption) ?restb24
                        case hyb24 => (intro w0 hw0; go_simp; try with_reducible rfl)
                        try simp only [Act.put, List.setIfInBounds_toArray, List.set_cons_zero, List.set_cons_succ, List.getElem_toArray, List.getElem_cons_zero, List.getElem_cons_succ]
                        refine wpAnyH_take (i := 25) (v := ?vvb25) rfl (by kernel_rfl) (by kernel_rfl) (by kernel_rfl) (fun _ _ _ h => h) (Or.inl ⟨by rfl, ?hyb25⟩) (by assumption) ?restb25
                        case hyb25 => (intro w0 hw0; go_simp; try with_reducible rfl)
                        try simp only [Act.put, List.setIfInBounds_toArray, List.set_cons_zero, List.set_cons_succ, List.getElem_toArray, List.getElem_cons_zero, List.getElem_cons_succ]
                        refine wpAnyH_take (i := 26) (v := ?vvb26) rfl (by kernel_rfl) (by kernel_rfl) (by kernel_rfl) (fun _ _ _ h => h) (Or.inl ⟨by rfl, ?hyb26⟩) (by assumption) ?restb26
                        case hyb26 => (intro w0 hw0; go_simp; try with_reducible rfl)
                        try simp only [Act.put, List.setIfInBounds_toArray, List.set_cons_zero, List.set_cons_succ, List.getElem_toArray, List.getElem_cons_zero, List.getElem_cons_succ]
                        refine wpAnyH_ready (rs := [27]) (by kernel_rfl) (by simp) (AllReadyH.cons rfl (fun K hK => ?_) AllReadyH.nil)
                        go_simp
                        refine hK.out _ _ (by first | exact (bdr hB2.out).setCell (Nat.le_refl _) _ | exact bdr (hB2.out.setCell (Nat.le_refl _) _) | exact hHeld.setCell (Nat.le_refl _) _) (fun hHeld => ?_)
                        clear hK K
                        try simp only [Act.put, List.setIfInBounds_toArray, List.set_cons_zero, List.set_cons_succ, List.getElem_toArray, List.getElem_cons_zero, List.getElem_cons_succ]
                        refine wpAnyH_done (by kernel_rfl) ?_ _
                        have HB8 := hid hHeld
                        have HT8 := hid (HV2.out _ hT.out)
                        clear hHeld hci ffi ex
                        go_wp2
                        go_roundw
                        case rel => exact ⟨j + 1, by omega, by go_num, HT8, HB8⟩
                        case measure => simp [intOf]; omega
                    · have HV2 := hid (HTN.out true (by rw [tp_succ, HT0v.out]; simp))
                      clear HTN HAJ
                      go_wp2_with fail
                      refine wp_region_held_drew (S := fun w1 => Below wt.heap.size wt w1) (by kernel_rfl) (bdr hB2.out) (fun hHeld => ?_)
                      refine wpAnyH_take (i := 0) (v := ?vva0) rfl (by kernel_rfl) (by kernel_rfl) (by kernel_rfl) (fun _ _ _ h => h) (Or.inl ⟨by rfl, ?hya0⟩) (by assumption) ?resta0
                      case hya0 => (intro w0 hw0; go_simp; try with_reducible rfl)
                      try simp only [Act.put, List.setIfInBounds_toArray, List.set_cons_zero, List.set_cons_succ, List.getElem_toArray, List.getElem_cons_zero]
                      refine wpAnyH_take (i := 1) (v := ?vva1) rfl (by kernel_rfl) (by kernel_rfl) (by kernel_rfl) (fun _ _ _ h => h) (Or.inl ⟨by rfl, ?hya1⟩) (by assumption) ?resta1
                      case hya1 => (intro w0 hw0; go_simp; try with_reducible rfl)
                      try simp only [Act.put, List.setIfInBounds_toArray, List.set_cons_zero, List.set_cons_succ, List.getElem_toArray, List.getElem_cons_zero, List.getElem_cons_succ]
                      refine wpAnyH_take (i := 2) (v := ?vva2) rfl (by kernel_rfl) (by kernel_rfl) (by kernel_rfl) (fun _ _ _ h => h) (Or.inl ⟨by rfl, ?hya2⟩) (by assumption) ?resta2
                      case hya2 => (intro w0 hw0; go_simp; try with_reducible rfl)
                      try simp only [Act.put, List.setIfInBounds_toArray, List.set_cons_zero, List.set_cons_succ, List.getElem_toArray, List.getElem_cons_zero, List.getElem_cons_succ]
                      refine wpAnyH_take (i := 3) (v := ?vva3) rfl (by kernel_rfl) (by kernel_rfl) (by kernel_rfl) (fun _ _ _ h => h) (Or.inl ⟨by rfl, ?hya3⟩) (by assumption) ?resta3
                      case hya3 => (intro w0 hw0; go_simp; try with_reducible rfl)
                      try simp only [Act.put, List.setIfInBounds_toArray, List.set_cons_zero, List.set_cons_succ, List.getElem_toArray, List.getElem_cons_zero, List.getElem_cons_succ]
                      refine wpAnyH_take (i := 4) (v := ?vva4) rfl (by kernel_rfl) (by kernel_rfl) (by kernel_rfl) (fun _ _ _ h => h) (Or.inl ⟨by rfl, ?hya4⟩) (by assumption) ?resta4
                      case hya4 => (intro w0 hw0; go_simp; try with_reducible rfl)
                      try simp only [Act.put, List.setIfInBounds_toArray, List.set_cons_zero, List.set_cons_succ, List.getElem_toArray, List.getElem_cons_zero, List.getElem_cons_succ]
                      refine wpAnyH_ready (rs := [5]) (by kernel_rfl) (by simp) (AllReadyH.cons rfl (fun K hK => ?_) AllReadyH.nil)
                      go_simp
                      refine hK.out _ _ (by first | exact bdr hB2.out | exact hHeld | assumption) (fun hHeld => ?_)
                      clear hK K
                      try simp only [Act.put, List.setIfInBounds_toArray, List.set_cons_zero, List.set_cons_succ, List.getElem_toArray, List.getElem_cons_zero, List.getElem_cons_succ]
                      refine wpAnyH_take (i := 6) (v := ?vva6) rfl (by kernel_rfl) (by kernel_rfl) (by kernel_rfl) (fun _ _ _ h => h) (Or.inl ⟨by rfl, ?hya6⟩) (by assumption) ?resta6
                      case hya6 => (intro w0 hw0; go_simp; try with_reducible rfl)
                      try simp only [Act.put, List.setIfInBounds_toArray, List.set_cons_zero, List.set_cons_succ, List.getElem_toArray, List.getElem_cons_zero, List.getElem_cons_succ]
                      refine wpAnyH_take (i := 7) (v := undef) rfl (by kernel_rfl) (by kernel_rfl) (by kernel_rfl) (fun _ _ _ h => h) (Or.inr ⟨by rfl, rfl⟩) (by assumption) ?_
                      try simp only [Act.put, List.setIfInBounds_toArray, List.set_cons_zero, List.set_cons_succ, List.getElem_toArray, List.getElem_cons_zero, List.getElem_cons_succ]
                      refine wpAnyH_take (i := 8) (v := undef) rfl (by kernel_rfl) (by kernel_rfl) (by kernel_rfl) (fun _ _ _ h => h) (Or.inr ⟨by rfl, rfl⟩) (by assumption) ?_
                      try simp only [Act.put, List.setIfInBounds_toArray, List.set_cons_zero, List.set_cons_succ, List.getElem_toArray, List.getElem_cons_zero, List.getElem_cons_succ]
                      refine wpAnyH_take (i := 9) (v := undef) rfl (by kernel_rfl) (by kernel_rfl) (by kernel_rfl) (fun _ _ _ h => h) (Or.inr ⟨by rfl, rfl⟩) (by assumption) ?_
                      try simp only [Act.put, List.setIfInBounds_toArray, List.set_cons_zero, List.set_cons_succ, List.getElem_toArray, List.getElem_cons_zero, List.getElem_cons_succ]
                      refine wpAnyH_take (i := 10) (v := undef) rfl (by kernel_rfl) (by kernel_rfl) (by kernel_rfl) (fun _ _ _ h => h) (Or.inr ⟨by rfl, rfl⟩) (by assumption) ?_
                      try simp only [Act.put, List.setIfInBounds_toArray, List.set_cons_zero, List.set_cons_succ, List.getElem_toArray, List.getElem_cons_zero, List.getElem_cons_succ]
                      refine wpAnyH_take (i := 11) (v := undef) rfl (by kernel_rfl) (by kernel_rfl) (by kernel_rfl) (fun _ _ _ h => h) (Or.inr ⟨by rfl, rfl⟩) (by assumption) ?_
                      try simp only [Act.put, List.setIfInBounds_toArray, List.set_cons_zero, List.set_cons_succ, List.getElem_toArray, List.getElem_cons_zero, List.getElem_cons_succ]
                      refine wpAnyH_take (i := 12) (v := undef) rfl (by kernel_rfl) (by kernel_rfl) (by kernel_rfl) (fun _ _ _ h => h) (Or.inr ⟨by rfl, rfl⟩) (by assumption) ?_
                      try simp only [Act.put, List.setIfInBounds_toArray, List.set_cons_zero, List.set_cons_succ, List.getElem_toArray, List.getElem_cons_zero, List.getElem_cons_succ]
                      refine wpAnyH_take (i := 13) (v := undef) rfl (by kernel_rfl) (by kernel_rfl) (by kernel_rfl) (fun _ _ _ h => h) (Or.inr ⟨by rfl, rfl⟩) (by assumption) ?_
                      try simp only [Act.put, List.setIfInBounds_toArray, List.set_cons_zero, List.set_cons_succ, List.getElem_toArray, List.getElem_cons_zero, List.getElem_cons_succ]
                      refine wpAnyH_take (i := 14) (v := undef) rfl (by kernel_rfl) (by kernel_rfl) (by kernel_rfl) (fun _ _ _ h => h) (Or.inr ⟨by rfl, rfl⟩) (by assumption) ?_
                      try simp only [Act.put, List.setIfInBounds_toArray, List.set_cons_zero, List.set_cons_succ, List.getElem_toArray, List.getElem_cons_zero, List.getElem_cons_succ]
                      refine wpAnyH_take (i := 15) (v := undef) rfl (by kernel_rfl) (by kernel_rfl) (by kernel_rfl) (fun _ _ _ h => h) (Or.inr ⟨by rfl, rfl⟩) (by assumption) ?_
                      try simp only [Act.put, List.setIfInBounds_toArray, List.set_cons_zero, List.set_cons_succ, List.getElem_toArray, List.getElem_cons_zero, List.getElem_cons_succ]
                      refine wpAnyH_take (i := 16) (v := undef) rfl (by kernel_rfl) (by kernel_rfl) (by kernel_rfl) (fun _ _ _ h => h) (Or.inr ⟨by rfl, rfl⟩) (by assumption) ?_
                      try simp only [Act.put, List.setIfInBounds_toArray, List.set_cons_zero, List.set_cons_succ, List.getElem_toArray, List.getElem_cons_zero, List.getElem_cons_succ]
                      refine wpAnyH_take (i := 17) (v := undef) rfl (by kernel_rfl) (by kernel_rfl) (by kernel_rfl) (fun _ _ _ h => h) (Or.inr ⟨by rfl, rfl⟩) (by assumption) ?_
                      try simp only [Act.put, List.setIfInBounds_toArray, List.set_cons_zero, List.set_cons_succ, List.getElem_toArray, List.getElem_cons_zero, List.getElem_cons_succ]
                      refine wpAnyH_take (i := 18) (v := undef) rfl (by kernel_rfl) (by kernel_rfl) (by kernel_rfl) (fun _ _ _ h => h) (Or.inr ⟨by rfl, rfl⟩) (by assumption) ?_
                      try simp only [Act.put, List.setIfInBounds_toArray, List.set_cons_zero, List.set_cons_succ, List.getElem_toArray, List.getElem_cons_zero, List.getElem_cons_succ]
                      refine wpAnyH_take (i := 19) (v := undef) rfl (by kernel_rfl) (by kernel_rfl) (by kernel_rfl) (fun _ _ _ h => h) (Or.inr ⟨by rfl, rfl⟩) (by assumption) ?_
                      try simp only [Act.put, List.setIfInBounds_toArray, List.set_cons_zero, List.set_cons_succ, List.getElem_toArray, List.getElem_cons_zero, List.getElem_cons_succ]
                      refine wpAnyH_take (i := 20) (v := undef) rfl (by kernel_rfl) (by kernel_rfl) (by kernel_rfl) (fun _ _ _ h => h) (Or.inr ⟨by rfl, rfl⟩) (by assumption) ?_
                      try simp only [Act.put, List.setIfInBounds_toArray, List.set_cons_zero, List.set_cons_succ, List.getElem_toArray, List.getElem_cons_zero, List.getElem_cons_succ]
                      refine wpAnyH_take (i := 21) (v := undef) rfl (by kernel_rfl) (by kernel_rfl) (by kernel_rfl) (fun _ _ _ h => h) (Or.inr ⟨by rfl, rfl⟩) (by assumption) ?_
                      try simp only [Act.put, List.setIfInBounds_toArray, List.set_cons_zero, List.set_cons_succ, List.getElem_toArray, List.getElem_cons_zero, List.getElem_cons_succ]
                      refine wpAnyH_take (i := 22) (v := undef) rfl (by kernel_rfl) (by kernel_rfl) (by kernel_rfl) (fun _ _ _ h => h) (Or.inr ⟨by rfl, rfl⟩) (by assumption) ?_
                      try simp only [Act.put, List.setIfInBounds_toArray, List.set_cons_zero, List.set_cons_succ, List.getElem_toArray, List.getElem_cons_zero, List.getElem_cons_succ]
                      refine wpAnyH_take (i := 23) (v := undef) rfl (by kernel_rfl) (by kernel_rfl) (by kernel_rfl) (fun _ _ _ h => h) (Or.inr ⟨by rfl, rfl⟩) (by assumption) ?_
                      try simp only [Act.put, List.setIfInBounds_toArray, List.set_cons_zero, List.set_cons_succ, List.getElem_toArray, List.getElem_cons_zero, List.getElem_cons_succ]
                      refine wpAnyH_take (i := 24) (v := undef) rfl (by kernel_rfl) (by kernel_rfl) (by kernel_rfl) (fun _ _ _ h => h) (Or.inr ⟨by rfl, rfl⟩) (by assumption) ?_
                      try simp only [Act.put, List.setIfInBounds_toArray, List.set_cons_zero, List.set_cons_succ, List.getElem_toArray, List.getElem_cons_zero, List.getElem_cons_succ]
                      refine wpAnyH_take (i := 25) (v := ?vva25) rfl (by kernel_rfl) (by kernel_rfl) (by kernel_rfl) (fun _ _ _ h => h) (Or.inl ⟨by rfl, ?hya25⟩) (by assumption) ?resta25
                      case hya25 => (intro w0 hw0; go_simp; try with_reducible rfl)
                      try simp only [Act.put, List.setIfInBounds_toArray, List.set_cons_zero, List.set_cons_succ, List.getElem_toArray, List.getElem_cons_zero, List.getElem_cons_succ]
                      refine wpAnyH_take (i := 26) (v := ?vva26) rfl (by kernel_rfl) (by kernel_rfl) (by kernel_rfl) (fun _ _ _ h => h) (Or.inl ⟨by rfl, ?hya26⟩) (by assumption) ?resta26
                      case hya26 => (intro w0 hw0; go_simp; try with_reducible rfl)
                      try simp only [Act.put, List.setIfInBounds_toArray, List.set_cons_zero, List.set_cons_succ, List.getElem_toArray, List.getElem_cons_zero, List.getElem_cons_succ]
                      refine wpAnyH_ready (rs := [27]) (by kernel_rfl) (by simp) (AllReadyH.cons rfl (fun K hK => ?_) AllReadyH.nil)
                      go_simp
                      refine hK.out _ _ (by first | exact (bdr hB2.out).setCell (Nat.le_refl _) _ | exact bdr (hB2.out.setCell (Nat.le_refl _) _) | exact hHeld.setCell (Nat.le_refl _) _) (fun hHeld => ?_)
                      clear hK K
                      try simp only [Act.put, List.setIfInBounds_toArray, List.set_cons_zero, List.set_cons_succ, List.getElem_toArray, List.getElem_cons_zero, List.getElem_cons_succ]
                      refine wpAnyH_done (by kernel_rfl) ?_ _
                      have HB8 := hid hHeld
                      have HT8 := hid (HV2.out _ hT.out)
                      clear hHeld hci ffi
                      go_wp2
                      go_roundw
                      case rel => exact ⟨j + 1, by omega, by go_num, HT8, HB8⟩
                      case measure => simp [intOf]; omega
                  · obtain rfl : k = j := by omega
                    have HTf : Hid (wy.rowIs wt.heap.size 4 k (fun q => .bool (decide (q < i + 1) && tchd E k c q))) := World.rowIs.congr hT.out fun q _ => by
                      by_cases e : q = i
                      · subst e; simp [tp_full]
                      · rw [if_neg e]
                        by_cases e2 : q < i
                        · simp [e2, show q < i + 1 by omega]
                        · simp [e2, show ¬ q < i + 1 by omega]
                    have hci := HTf.out.cell hik
                    have yi := (KYr.out _ hB2.out).cell (i := i) (by omega)
                    have yk := (KYr.out _ hB2.out).cell (i := k) (by omega)
                    have xi := (KXr.out _ hB2.out).cell hik
                    obtain ⟨ti, hti⟩ : ∃ z, tchd E k c i = z := ⟨_, rfl⟩
                    obtain ⟨bi, hbi⟩ : ∃ z, idx (k + 1) d i + 1 = z := ⟨_, rfl⟩
                    obtain ⟨bn, hbn⟩ : ∃ z, idx (k + 1) d k + 1 = z := ⟨_, rfl⟩
                    have hbt : bi = bn ↔ ti = true := by
                      have h1 := HLT.out i hik
                      rw [← idx_eq (n := k + 1) (by omega) (by omega), hti] at h1
                      rw [← hbi, ← hbn, Nat.add_right_cancel_iff]
                      exact h1
                    rw [hti, decide_eq_true (show i < i + 1 by omega), Bool.true_and] at hci
                    rw [hbi] at yi
                    rw [hbn] at yk
                    rw [HAI.out] at xi
                    have HTI := hid hti
                    have HBI := hid hbi
                    have HBN := hid hbt
                    have HTN0 := hid hbn
                    have i0 : (0 : Int) ≤ (i : Int) := by omega
                    have i1 : (i : Int) < (k : Int) := by omega
                    have i2 : (i : Int) < ((k + 1 : Nat) : Int) := by omega
                    have k2 : (k : Int) < ((k + 1 : Nat) : Int) := by omega
                    clear hti hbi hbn hbt hT
                    cases ti
                    · have hzc2 : Hid (z = 1 + cntT E k c (i + 1)) := by unfold Hid; rw [cntT_succ, HTI.out, hzc.out]; simp
                      have exb : ((bi : Int) == (bn : Int)) = false := by have := HBN.out; simp at this ⊢; omega
                      clear HTN0
                      go_wp2_with fail
                      go_quiet (fail)
                      go_wp2_with fail
                      go_loopw [25] (fun jv wr => ∃ q m : Nat, q ≤ i ∧ jv = .int .i64 (q : Nat) ∧ wr = wy.drewN m) (fun jv _ => i - (intOf jv).toNat)
                      case atStart => exact ⟨0, _, Nat.zero_le _, rfl, rfl⟩
                      case round =>
                        obtain ⟨q, m, hq, rfl, rfl⟩ := hrel
                        by_cases hqi : q < i
                        · have hqk : q < k := by omega
                          have xq := (KXr.out _ hB2.out).cell hqk
                          have yq := (KYr.out _ hB2.out).cell (i := q) (by omega)
                          have tq := HTf.out.cell hqk
                          obtain ⟨aq, haq⟩ : ∃ z, idx k c q + 1 = z := ⟨_, rfl⟩
                          obtain ⟨bq, hbq⟩ : ∃ z, idx (k + 1) d q + 1 = z := ⟨_, rfl⟩
                          obtain ⟨b0, hb0⟩ : ∃ z, tchd E k c q = z := ⟨_, rfl⟩
                          have hlaw : bi = bq ↔ ai = aq ∨ (false = true ∧ b0 = true) := by
                            have h1 := HLW.out i q hik hqk
                            rw [← idx_eq (c := d) (n := k + 1) (by omega) (by omega), ← idx_eq (c := c) hik hqk, HTI.out, hb0] at h1
                            rw [← HBI.out, ← hbq, ← HAI.out, ← haq, Nat.add_right_cancel_iff, Nat.add_right_cancel_iff]
                            exact h1
                          rw [haq] at xq
                          rw [hbq] at yq
                          rw [hb0, decide_eq_true (show q < i + 1 by omega), Bool.true_and] at tq
                          have q0 : (0 : Int) ≤ (q : Int) := by omega
                          have q1 : (q : Int) < (k : Int) := by omega
                          clear haq hbq hb0
                          by_cases haa : ai = aq
                          · have exa : ((ai : Int) == (aq : Int)) = true := by simp; omega
                            have ex2 : ((bi : Int) == (bq : Int)) = true := by simp at hlaw ⊢; omega
                            clear hlaw
                            go_wp2_with fail
                            go_quiet (fail)
                            go_wp2
                            go_roundw
                            case rel => exact ⟨q + 1, _, by omega, by go_num, rfl⟩
                            case measure => simp [intOf]; omega
                          · have exa : ((ai : Int) == (aq : Int)) = false := by simp; omega
                            have ex2 : ((bi : Int) == (bq : Int)) = false := by simp at hlaw ⊢; omega
                            clear hlaw
                            go_wp2_with fail
                            go_quiet (fail)
                            go_wp2
                            go_roundw
                            case rel => exact ⟨q + 1, _, by omega, by go_num, rfl⟩
                            case measure => simp [intOf]; omega
                        · obtain rfl : i = q := by omega
                          go_wp2
                          go_roundw
                          case rel => exact ⟨i + 1, z, by omega, by go_num, rfl, hzc2, HTf.out, bdn hB2.out _⟩
                          case measure => simp [intOf]; omega
                    · have hzc2 : Hid (z + 1 = 1 + cntT E k c (i + 1)) := by unfold Hid; rw [cntT_succ, HTI.out, hzc.out]; simp; omega
                      have exb : ((bi : Int) == (bn : Int)) = true := by have := HBN.out; simp at this ⊢; omega
                      clear HTN0
                      go_wp2_with fail
                      go_quiet (fail)
                      go_wp2_with fail
                      go_loopw [25] (fun jv wr => ∃ q m : Nat, q ≤ i ∧ jv = .int .i64 (q : Nat) ∧ wr = wy.drewN m) (fun jv _ => i - (intOf jv).toNat)
                      case atStart => exact ⟨0, _, Nat.zero_le _, rfl, rfl⟩
                      case round =>
                        obtain ⟨q, m, hq, rfl, rfl⟩ := hrel
                        by_cases hqi : q < i
                        · have hqk : q < k := by omega
                          have xq := (KXr.out _ hB2.out).cell hqk
                          have yq := (KYr.out _ hB2.out).cell (i := q) (by omega)
                          have tq := HTf.out.cell hqk
                          obtain ⟨aq, haq⟩ : ∃ z, idx k c q + 1 = z := ⟨_, rfl⟩
                          obtain ⟨bq, hbq⟩ : ∃ z, idx (k + 1) d q + 1 = z := ⟨_, rfl⟩
                          obtain ⟨b0, hb0⟩ : ∃ z, tchd E k c q = z := ⟨_, rfl⟩
                          have hlaw : bi = bq ↔ ai = aq ∨ (true = true ∧ b0 = true) := by
                            have h1 := HLW.out i q hik hqk
                            rw [← idx_eq (c := d) (n := k + 1) (by omega) (by omega), ← idx_eq (c := c) hik hqk, HTI.out, hb0] at h1
                            rw [← HBI.out, ← hbq, ← HAI.out, ← haq, Nat.add_right_cancel_iff, Nat.add_right_cancel_iff]
                            exact h1
                          rw [haq] at xq
                          rw [hbq] at yq
                          rw [hb0, decide_eq_true (show q < i + 1 by omega), Bool.true_and] at tq
                          have q0 : (0 : Int) ≤ (q : Int) := by omega
                          have q1 : (q : Int) < (k : Int) := by omega
                          clear haq hbq hb0
                          by_cases haa : ai = aq
                          · have exa : ((ai : Int) == (aq : Int)) = true := by simp; omega
                            have ex2 : ((bi : Int) == (bq : Int)) = true := by simp at hlaw ⊢; omega
                            clear hlaw
                            go_wp2_with fail
                            go_quiet (fail)
                            go_wp2
                            go_roundw
                            case rel => exact ⟨q + 1, _, by omega, by go_num, rfl⟩
                            case measure => simp [intOf]; omega
                          · cases b0
                            · have exa : ((ai : Int) == (aq : Int)) = false := by simp; omega
                              have ex2 : ((bi : Int) == (bq : Int)) = false := by simp at hlaw ⊢; omega
                              clear hlaw
                              go_wp2_with fail
                              go_quiet (fail)
                              go_wp2
                              go_roundw
                              case rel => exact ⟨q + 1, _, by omega, by go_num, rfl⟩
                              case measure => simp [intOf]; omega
                            · have exa : ((ai : Int) == (aq : Int)) = false := by simp; omega
                              have ex2 : ((bi : Int) == (bq : Int)) = true := by simp at hlaw ⊢; omega
                              clear hlaw
                              go_wp2_with fail
                              go_quiet (fail)
                              go_wp2
                              go_roundw
                              case rel => exact ⟨q + 1, _, by omega, by go_num, rfl⟩
                              case measure => simp [intOf]; omega
                        · obtain rfl : i = q := by omega
                          go_wp2
                          go_roundw
                          case rel => exact ⟨i + 1, z + 1, by omega, by go_num, by go_num, hzc2, HTf.out, bdn hB2.out _⟩
                          case measure => simp [intOf]; omega
              · obtain rfl : i = k := by omega
                have hsz : r = z := HSZ.out.trans hzc.out.symm
                subst hsz
                have HBE := hid (HB3.out.trans ((KBt.out _ hBt.out).mono (by omega)))
                go_wp2
                go_ret
                exact ⟨rfl, HBE.out⟩
  · go_enter Try.func9, Try.ntmps9
    go_wp2_with fail
    refine (head38_any _).mono ?_
    rintro e w3 ⟨rfl, hb3⟩
    have HB3 := hid (bl (ba (Below.refl _ _) _) hb3)
    clear hb3
    go_wp2
    go_ret
    exact ⟨rfl, HB3.out⟩

theorem own : ownKnob Try.prog.godebug = none := by kernel_rfl
theorem laidOut : laidOutB Try.prog = true := by kernel_rfl
set_option maxRecDepth 100000 in
theorem lifted (os : Os) (started : os.Started) (H : Type) (enc : TypeId × Value → H) :
    ReturnsInHanded {} Try.checked os 9 .any (Rows.mergeAddsSpec.pre6 enc Try.prog Try.f9 Rows.mergeAddsRow.domain false) (Rows.mergeAddsSpec.post enc Try.prog Try.f9 false true false false) := by
  refine returnsInHanded_of_change (C := Try.checked) own started (by kernel_rfl) Try.func9
    (ChangeSpec.witness6 (enc := enc) (C := Try.checked) false ⟨#[], #[.slice none 0 0, .agg #[.int .i64 0, .int .i64 0, .int .i64 0, .int .i64 0, .int .i64 0], .int .i64 0], []⟩ 8 (by kernel_rfl) (by kernel_rfl) (by kernel_rfl) (by kernel_rfl)) ?_
  intro W base args ds gs before hval0 hW hcnd _
  have hval : ∀ (j : Nat) t v, Try.f9.params[j]? = some t → args[j]? = some v → Value.okWide Try.prog W .any base t v := hval0
  have hW' := hW
  obtain ⟨p, q, hA0, hV, rfl, hfz, hnd⟩ := hW
  have hA : DataW.TrodAll enc Try.prog W 0 (fun _ => true) true Try.f9.params.toList args.toList ds p := hA0
  rw [Try.params9] at hA hval
  obtain ⟨v0, vs0, d0, ds0, p0, q0, hargs, rfl, rfl, h0, r0⟩ := trodAll_cons hA
  obtain ⟨v1, vs1, d1, ds1, p1, q1, rfl, rfl, rfl, h1, r1⟩ := trodAll_cons r0
  obtain ⟨v2, vs2, d2, ds2, p2, q2, rfl, rfl, rfl, h2, r2⟩ := trodAll_cons r1
  obtain ⟨rfl, rfl, rfl⟩ := trodAll_nil r2
  obtain rfl : args = #[v0, v1, v2] := by cases args; simp_all
  obtain ⟨rfl, rfl⟩ := trodVars_none hV
  have k0 := h0
  have lt0 : ∀ x ∈ p0, x.block < W.heap.size := by obtain ⟨m, hm⟩ := k0; exact DataW.trod_lt m _ _ _ hm
  obtain ⟨A0, l0, c0, rfl, z0, hz0⟩ := open_alerts (hval 0 42 v0 rfl rfl) h0
  have k1 := h1
  have lt1 : ∀ x ∈ p1, x.block < W.heap.size := by obtain ⟨m, hm⟩ := k1; exact DataW.trod_lt m _ _ _ hm
  obtain ⟨x1, rfl⟩ := open_alert (hval 1 52 v1 rfl rfl) h1
  obtain ⟨a2, rfl, rfl, rfl, w2⟩ := open_int Try.underlying3 (hval 2 3 v2 rfl rfl) h2
  clear hA0 hval0
  refine (walk W A0 l0 c0 z0 hz0 x1 a2 w2).mono fun e W' ⟨he, bel⟩ => ?_
  subst he
  exact ⟨_, rfl, _, _, _, [], _, [], hW', trodAll_mk1 (shut_bool Try.underlying4 _), (trodAll_cons_mk (Below.trod laidOut (by kernel_rfl) (of_decide_eq_true (by kernel_rfl)) k0 bel lt0) (trodAll_cons_mk (Below.trod laidOut (by kernel_rfl) (of_decide_eq_true (by kernel_rfl)) k1 bel lt1) (trodAll_cons_mk (shut_int Try.underlying3 w2) trodAll_mk0))), rfl, bel.frame _, fun h => by cases h⟩

theorem over : Rows.mergeAddsRow.holds Try.pinned (OpenSpec.ofChange Rows.mergeAddsSpec) :=
  OpenClaim.holds_of_wide 9 Try.f9 rfl rfl rfl rfl rfl rfl rfl ⟨rfl, rfl, rfl, rfl, rfl⟩ rfl rfl rfl rfl rfl (by kernel_rfl) Try.func9 (by kernel_rfl)
    (of_decide_eq_true (by kernel_rfl)) (by unfold Func.isWrapper; first | (rw [if_pos (by decide +kernel)]; kernel_rfl) | (rw [if_neg (by decide +kernel)]; exact ⟨rfl, rfl⟩))
    (fun os started H enc _ => lifted os started H enc)
theorem proved : Rows.MergeAddsSaid := over
#print axioms proved
end Go.Proofs.Ytfddnmibjaibhaa.mergeAdds
