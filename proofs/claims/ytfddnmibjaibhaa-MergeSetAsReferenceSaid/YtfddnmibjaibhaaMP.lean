/- Groups of the reference of merge. -/
import Derived.Test.YtfddnmibjaibhaaMO
namespace Go.Proofs.Ytfddnmibjaibhaa
open Go.RowKit Go.Maps

set_option maxHeartbeats 3200000 in
set_option maxRecDepth 100000 in
theorem rGroups_n {l : List Al} {n : Nat} {E : Int} (hn : l.length = n) (hE : errG l = E) (A : Option Addr) (cp : Nat) (win : Int) (w : World) (hz : n ≤ 1000000) (hA : RowA w w.heap.size A l) :
    Calls Try.prog 36 #[.slice A n cp, .int .i64 win] w fun e w' => Below w.heap.size w w' ∧
      ((okG win l = true ∧ ∃ A' c', e = .returned (.tuple #[.slice A' (gl n (col win l)).length c', .int .i64 0]) ∧ RowG w' 0 w'.heap.size A' (gl n (col win l))) ∨
       (okG win l = false ∧ e = .returned (.tuple #[.slice none 0 0, .int .i64 E]))) := by
  have HN := hid hn
  have HA := hid hA
  by_cases h200 : 200 < n
  · have hE2 : E = 2 := by rw [← hE]; unfold errG; rw [hn, if_pos h200]
    subst hE2
    have HOK := hid (okG_long (win := win) (l := l) (by rw [hn]; exact h200))
    clear hn hE hA
    go_enter Try.func36, Try.ntmps36
    go_wp2
    go_ret2
    exact ⟨Below.refl _ _, .inr ⟨HOK.out, rfl⟩⟩
  · have hE1 : E = 1 := by rw [← hE]; unfold errG; rw [hn, if_neg h200]
    subst hE1
    clear hn hE hA
    obtain ⟨R, hR⟩ : ∃ R : Ending → World → Prop, R = fun e w' => Below w.heap.size w w' ∧
      ((okG win l = true ∧ ∃ A' c', e = .returned (.tuple #[.slice A' (gl n (col win l)).length c', .int .i64 0]) ∧ RowG w' 0 w'.heap.size A' (gl n (col win l))) ∨
       (okG win l = false ∧ e = .returned (.tuple #[.slice none 0 0, .int .i64 1]))) := ⟨_, rfl⟩
    have HR := hid hR
    rw [← hR]
    obtain ⟨m, hm⟩ : ∃ m, isM win = m := ⟨_, rfl⟩
    have HM := hid hm
    clear hR hm
    go_enter Try.func36, Try.ntmps36
    go_wp2_with fail
    go_loopw [6] (fun i wr => ∃ k : Nat, k ≤ n ∧ i = .int .i64 (k : Nat) ∧ Hid (∀ x ∈ l.take k, isV x = true) ∧ Hid (Below w.heap.size w wr)) (fun i _ => n - (intOf i).toNat)
    case atStart => exact ⟨0, Nat.zero_le _, rfl, by simp [Hid], Below.refl _ _⟩
    case round =>
      obtain ⟨k, hk, rfl, hV, hB⟩ := hrel
      by_cases hkn : k < n
      · have hkl : k < l.length := by rw [HN.out]; exact hkn
        obtain ⟨y, hy⟩ : ∃ y, l[k] = y := ⟨_, rfl⟩
        have hlk : l[k]? = some y := by rw [List.getElem?_eq_getElem hkl, hy]
        have htk : l.take (k + 1) = l.take k ++ [y] := by rw [List.take_succ_eq_append_getElem hkl, hy]
        obtain ⟨b, o, rfl, hb, hc⟩ := rowA_cells HA.out (by omega)
        obtain ⟨y0, y1, y2, y3, y4⟩ := hc k y hlk wr hB.out
        obtain ⟨V, hv⟩ : ∃ V, isV y = V := ⟨_, rfl⟩
        have HV := hid hv
        have HTK := hid htk
        have HMEM : Hid (y ∈ l) := hy ▸ List.getElem_mem hkl
        obtain ⟨t2, c2, f2, u2, s2⟩ := y
        dsimp only at y0 y1 y2 y3 y4
        clear hy hlk htk hc hv
        go_wp2_with fail
        refine (Valid_any ⟨t2, c2, f2, u2, s2⟩ _).mono ?_
        rintro e w5 ⟨rfl, hb5⟩
        rw [HV.out]
        have HB5 := hid (bl hB.out hb5)
        clear hb5 y0 y1 y2 y3 y4
        cases V
        · go_wp2
          rw [HR.out]
          exact ⟨HB5.out, .inr ⟨okG_bad HMEM.out HV.out, rfl⟩⟩
        · have HV2 : Hid (∀ x ∈ l.take (k + 1), isV x = true) := by
            intro x hx
            rw [HTK.out, List.mem_append, List.mem_singleton] at hx
            rcases hx with hx | rfl
            · exact hV.out x hx
            · exact HV.out
          go_wp2
          go_roundw
          case rel => exact ⟨k + 1, by omega, by go_num, HV2, HB5⟩
          case measure => simp [intOf]; omega
      · obtain rfl : n = k := by omega
        have HAV : Hid (∀ x ∈ l, isV x = true) := by
          have := hV.out
          rwa [List.take_of_length_le (by rw [HN.out]; exact Nat.le_refl _)] at this
        have HEG : Hid (∀ i k, ∀ (hi : i < n) (hk : k < n), edge win l i k = cl win (l[i]'(by rw [HN.out]; exact hi)) (l[k]'(by rw [HN.out]; exact hk))) := fun i k hi hk => edge_is (by rw [HN.out]; exact hi) (by rw [HN.out]; exact hk)
        obtain ⟨G, hG⟩ : ∃ G, edge win l = G := ⟨_, rfl⟩
        have HGS : Hid (∀ x y, G x y = G y x) := by rw [← hG]; exact edge_symm win l
        have hle := col_least win l
        rw [HN.out, hG] at hle
        have HLE := hid hle
        rw [hG] at HEG
        clear hV hG hle
        obtain ⟨wa, hwa⟩ : ∃ wa, wa = wr := ⟨_, rfl⟩
        subst hwa
        go_wp2_with fail
        refine (rmoment_any _ _).mono ?_
        rintro e w5 ⟨rfl, rfl⟩
        rw [HM.out]
        cases m
        · go_wp2
          rw [HR.out]
          exact ⟨hB.out, .inr ⟨okG_win HM.out, rfl⟩⟩
        · have HOK := hid (okG_valid HAV.out (by rw [HN.out]; omega) HM.out)
          have hmk := run_make_row' (P := Try.prog) 31 3 (.int .i64 0) 8 Try.underlying31 Try.info3 rfl .i64 .i64 n (by omega) (by omega)
          have hrow := World.rowIs_made wa (.int .i64 0) n 3
          have HT0 : Hid ((wa.alloc (.cells (madeCells #[.int .i64 0] n) 3)).rowIs wa.heap.size 3 n (fun j => .int .i64 ((if j < 0 then j else 0 : Nat)))) := World.rowIs.congr hrow fun j _ => by simp
          clear hrow
          go_wp2_with fail
          clear hmk
          go_loopw [8] (fun i wr => ∃ k : Nat, k ≤ n ∧ i = .int .i64 (k : Nat) ∧ Hid (wr.rowIs wa.heap.size 3 n (fun j => .int .i64 ((if j < k then j else 0 : Nat)))) ∧ Hid (Below wa.heap.size wa wr)) (fun i _ => n - (intOf i).toNat)
          case atStart => exact ⟨0, Nat.zero_le _, rfl, HT0, ba (Below.refl _ _) _⟩
          case round =>
            obtain ⟨k, hk2, rfl, hT, hB2⟩ := hrel
            by_cases hkn2 : k < n
            · have c1 := hT.out.cell hkn2
              have f1 := World.rowIs.frozen hT.out k
              have HT2 : Hid ((wr.setCell ⟨wa.heap.size, k, none⟩ (.int .i64 (k : Nat))).rowIs wa.heap.size 3 n (fun j => .int .i64 ((if j < k + 1 then j else 0 : Nat)))) := by
                refine (World.rowIs.set hT.out k _).congr fun j _ => ?_
                by_cases e : j = k
                · subst e; simp
                · by_cases e2 : j < k
                  · simp [e, e2, show j < k + 1 by omega]
                  · simp [e, e2, show ¬ j < k + 1 by omega]
              go_wp2
              go_roundw
              case rel => exact ⟨k + 1, by omega, by go_num, HT2, hB2.out.setCell (p := ⟨wa.heap.size, k, none⟩) (Nat.le_refl _) _⟩
              case measure => simp [intOf]; omega
            · obtain rfl : n = k := by omega
              have HT3 : Hid (wr.rowIs wa.heap.size 3 n (fun j => .int .i64 (((fun i => i) j : Nat)))) := World.rowIs.congr hT.out fun j hj => by simp [hj]
              clear hT
              go_wp2_with fail
              obtain ⟨w8, hw8⟩ : ∃ w8, w8 = wr := ⟨_, rfl⟩
              subst hw8
              go_loopw [9] (fun mv wr => ∃ (L : Nat → Nat) (more : Bool), mv = .bool more ∧ Hid (Lw G n L) ∧ Hid (more = false → Done G n L) ∧ Hid (wr.rowIs wa.heap.size 3 n (fun j => .int .i64 (L j : Nat))) ∧ Hid (Below wa.heap.size wa wr)) (fun mv wr => mL wr wa.heap.size n + mb mv)
              case atStart => exact ⟨fun i => i, true, rfl, Lw.start G n, fun h => by simp at h, HT3, hB2⟩
              case round =>
                obtain ⟨L, more, rfl, hlw, hdone, hT, hB3⟩ := hrel
                obtain ⟨wx, hwx⟩ : ∃ wx, wx = wr := ⟨_, rfl⟩
                subst hwx
                cases more
                · have HDN := hid (hdone.out rfl)
                  have HLF : Hid (∀ i, i < n → (isF L i = true ↔ L i = i)) := fun i hi => hlw.out.first HGS.out HDN.out hi
                  have HGL : Hid (gl n (col win l) = gl n L) := gl_congr (HLE.out.same (hlw.out.least HGS.out HDN.out))
                  have hwx : w.heap.size ≤ wx.heap.size := (hB.out.trans (hB3.out.mono hB.out.size)).size
                  have HWX := hid (hB.out.trans (hB3.out.mono hB.out.size))
                  have hol := World.rowIs.lt hT.out
                  have KL : Hid (∀ w1 : World, Below wx.heap.size wx w1 → w1.rowIs wa.heap.size 3 n (fun j => .int .i64 (L j : Nat))) := fun w1 hb => World.rowIs.of_block hT.out (hb.block _ hol)
                  clear hdone HT3 hT HDN
                  go_wp2_with fail
                  go_loopw [12, 13] (fun ov iv wr => ∃ i : Nat, i ≤ n ∧ iv = .int .i64 (i : Nat) ∧ Hid (OG wr wx.heap.size ov (glp n i L)) ∧ Hid (Below wx.heap.size wx wr)) (fun _ iv _ => n - (intOf iv).toNat)
                  case atStart => exact ⟨0, Nat.zero_le _, rfl, OG.nil _ _, Below.refl _ _⟩
                  case round =>
                    obtain ⟨i, hi, rfl, hO, hBi⟩ := hrel
                    obtain ⟨wi, hwi⟩ : ∃ wi, wi = wr := ⟨_, rfl⟩
                    subst hwi
                    have hsi : wx.heap.size ≤ wi.heap.size := hBi.out.size
                    by_cases hin : i < n
                    · obtain ⟨v, hv⟩ : ∃ v, L i = v := ⟨_, rfl⟩
                      have ci := (KL.out _ hBi.out).cell hin
                      rw [hv] at ci
                      have HV := hid hv
                      clear hv
                      by_cases hvi : v = i
                      · have hF : isF L i = true := (HLF.out i hin).2 (by rw [HV.out, hvi])
                        subst hvi
                        have HNX := hid (glp_yes (n := n) hF)
                        rw [HV.out] at HNX
                        have hgl := glp_le n v L
                        obtain ⟨gs, hgs⟩ : ∃ gs, glp n v L = gs := ⟨_, rfl⟩
                        rw [hgs] at HNX hO hgl
                        clear hF hgs
                        go_wp2_with fail
                        go_loopw [14, 15] (fun gv kv wr => ∃ k : Nat, k ≤ n ∧ kv = .int .i64 (k : Nat) ∧ Hid (wr.ownsRow wi.heap.size 3 1 gv (mem k L v).length (nv (mem k L v))) ∧ Hid (Below wi.heap.size wi wr)) (fun _ kv _ => n - (intOf kv).toNat)
                        case atStart => exact ⟨0, Nat.zero_le _, rfl, (by have : mem 0 L v = [] := by simp [mem]
                                                                          unfold Hid; rw [this]; exact World.ownsRow_nil _ _ _ _), Below.refl _ _⟩
                        case round =>
                          obtain ⟨k, hk3, rfl, hM, hBk⟩ := hrel
                          have hsk : wi.heap.size ≤ wr.heap.size := hBk.out.size
                          by_cases hkn3 : k < n
                          · obtain ⟨y, hy⟩ : ∃ y, L k = y := ⟨_, rfl⟩
                            have ck := (KL.out wr (hBi.out.trans (hBk.out.mono hsi))).cell hkn3
                            rw [hy] at ck
                            have hml := mem_le k L v
                            by_cases hyv : y = v
                            · have HMS : Hid (mem (k + 1) L v = mem k L v ++ [k]) := by unfold Hid; rw [mem_succ, hy, if_pos hyv]
                              subst hyv
                              clear hy
                              go_wp2_with (at_builtin; refine wp_app_int_at rfl _ _ rfl wi.heap.size _ _ _ rfl (hM.out.alloc _) _ _ (k : Nat) rfl (by simp) (by omega) (by simp; omega) ?_)
                              intro v' w9 hown hgrow hloc
                              have HM9 : Hid (w9.ownsRow wi.heap.size 3 1 v' (mem (k + 1) L y).length (nv (mem (k + 1) L y))) := by unfold Hid; rw [HMS.out, List.length_append]; simpa [nv] using hown
                              have HB9 : Hid (Below wi.heap.size wi w9) := Fr.below (ba hBk.out _) ((Fr.refl (fun x => u14.ownBlock = some x) _).grown hgrow (fun x hx => .inl hx)) (Nat.le_refl _) (fun x hx => (hM.out.lt x hx).1)
                              clear hown hgrow hloc
                              go_wp2
                              go_roundw
                              case rel => exact ⟨k + 1, by omega, by go_num, HM9, HB9⟩
                              case measure => simp [intOf]; omega
                            · have HMS : Hid (mem (k + 1) L v = mem k L v) := by unfold Hid; rw [mem_succ, hy, if_neg hyv, List.append_nil]
                              have ex : ((y : Int) == (v : Int)) = false := by simp; omega
                              clear hy
                              go_wp2
                              go_roundw
                              case rel => exact ⟨k + 1, by omega, by go_num, (by unfold Hid; rw [HMS.out]; exact hM.out), hBk⟩
                              case measure => simp [intOf]; omega
                          · obtain rfl : n = k := by omega
                            obtain ⟨A3, c3, rfl, -⟩ := own_slice hM.out
                            obtain ⟨m3, hm3⟩ : ∃ m3, (mem n L v).length = m3 := ⟨_, rfl⟩
                            have HM3 := hid hm3
                            obtain ⟨hs, hown, hback⟩ := og_push2 hO.out hsi hBk.out hM.out
                            have HBK := hid hback
                            rw [hm3] at HBK ⊢
                            clear hback hm3
                            go_wp2_with (at_builtin; refine wp_app_hdr rfl _ _ rfl wx.heap.size _ _ _ rfl (hown.alloc _) _ _ A3 m3 c3 rfl (by simp) (by omega) (by simp; omega) ?_)
                            intro v' w9 hown' hgrow' hloc'
                            obtain ⟨hO9, hF9⟩ := HBK.out _ v' w9 hown' hgrow' (by simpa using hloc')
                            have HO9 : Hid (OG w9 wx.heap.size v' (glp n (v + 1) L)) := by unfold Hid; rw [HNX.out]; exact hO9
                            have HB9 : Hid (Below wx.heap.size wx w9) := Fr.below (hBi.out.trans (hBk.out.mono hsi)) hF9 (Nat.le_refl _) (fun x hx => hx)
                            clear hown' hgrow' hloc' hO9 hF9 HBK hown
                            go_wp2
                            go_roundw
                            case rel => exact ⟨v + 1, by omega, by go_num, HO9, HB9⟩
                            case measure => simp [intOf]; omega
                      · have hF : isF L i = false := by
                          rw [Bool.eq_false_iff]; intro h
                          exact hvi (by rw [← HV.out]; exact (HLF.out i hin).1 h)
                        have HNX : Hid (OG wi wx.heap.size u12 (glp n (i + 1) L)) := by unfold Hid; rw [glp_no hF]; exact hO.out
                        have ex : ((v : Int) == (i : Int)) = false := by simp; omega
                        have ex2 : ((v : Int) != (i : Int)) = true := by simp; omega
                        clear hF
                        go_wp2
                        go_roundw
                        case rel => exact ⟨i + 1, by omega, by go_num, HNX, hBi⟩
                        case measure => simp [intOf]; omega
                    · obtain rfl : n = i := by omega
                      rw [glp_full] at hO
                      obtain ⟨A9, c9, rfl, hr9⟩ := hO.out.read
                      have HRD := hid (hr9.wide (Nat.zero_le _) (Nat.le_refl _))
                      have HBE := hid (HWX.out.trans (hBi.out.mono hwx))
                      clear hr9 hO
                      go_wp2
                      rw [HR.out]
                      exact ⟨HBE.out, .inl ⟨HOK.out, A9, c9, (by rw [HGL.out]; rfl), (by rw [HGL.out]; exact HRD.out)⟩⟩
                · have HMX := hid (mL_row hT.out)
                  go_wp2_with fail
                  go_loopw [9, 10] (fun mv iv wr => ∃ (L' : Nat → Nat) (more : Bool) (i : Nat), i ≤ n ∧ iv = .int .i64 (i : Nat) ∧ mv = .bool more ∧ Hid (Ps G n L L' more i 0) ∧ Hid (wr.rowIs wa.heap.size 3 n (fun j => .int .i64 (L' j : Nat))) ∧ Hid (Below wa.heap.size wa wr)) (fun _ iv _ => n - (intOf iv).toNat)
                  case atStart => exact ⟨L, false, 0, Nat.zero_le _, rfl, rfl, Ps.start hlw.out, hT, hB3⟩
                  case round =>
                    obtain ⟨L1, more, i, hi, rfl, rfl, hps, hT1, hB4⟩ := hrel
                    by_cases hin : i < n
                    · go_wp2_with fail
                      go_loopw [9, 11] (fun mv jv wr => ∃ (L' : Nat → Nat) (more : Bool) (j : Nat), j ≤ n ∧ jv = .int .i64 (j : Nat) ∧ mv = .bool more ∧ Hid (Ps G n L L' more i j) ∧ Hid (wr.rowIs wa.heap.size 3 n (fun j => .int .i64 (L' j : Nat))) ∧ Hid (Below wa.heap.size wa wr)) (fun _ jv _ => n - (intOf jv).toNat)
                      case atStart => exact ⟨L1, more, 0, Nat.zero_le _, rfl, rfl, hps, hT1, hB4⟩
                      case round =>
                        obtain ⟨L2, more2, j, hj, rfl, rfl, hps2, hT2, hB5⟩ := hrel
                        obtain ⟨wy, hwy⟩ : ∃ wy, wy = wr := ⟨_, rfl⟩
                        subst hwy
                        by_cases hjn : j < n
                        · obtain ⟨vi, hvi⟩ : ∃ v, L2 i = v := ⟨_, rfl⟩
                          obtain ⟨vj, hvj⟩ : ∃ v, L2 j = v := ⟨_, rfl⟩
                          have HVI := hid hvi
                          have HVJ := hid hvj
                          have hol := World.rowIs.lt hT2.out
                          have KL : Hid (∀ w1 : World, Below wy.heap.size wy w1 → w1.cell? ⟨wa.heap.size, i, none⟩ = some (.int .i64 (vi : Nat)) ∧ w1.cell? ⟨wa.heap.size, j, none⟩ = some (.int .i64 (vj : Nat))) := fun w1 hb =>
                            ⟨(hb.cell (p := ⟨wa.heap.size, i, none⟩) (by simpa using hol)).trans ((hT2.out.cell hin).trans (by rw [hvi])), (hb.cell (p := ⟨wa.heap.size, j, none⟩) (by simpa using hol)).trans ((hT2.out.cell hjn).trans (by rw [hvj]))⟩
                          have i0 : (0 : Int) ≤ (i : Int) := by omega
                          have i1 : (i : Int) < (n : Int) := by omega
                          have j0 : (0 : Int) ≤ (j : Int) := by omega
                          have j1 : (j : Int) < (n : Int) := by omega
                          clear hvi hvj
                          by_cases hlt : vj < vi
                          · have hlt2 : decide (vj < vi) = true := decide_eq_true hlt
                            have hil : i < l.length := by rw [HN.out]; exact hin
                            have hjl : j < l.length := by rw [HN.out]; exact hjn
                            obtain ⟨x, hx⟩ : ∃ x, l[i] = x := ⟨_, rfl⟩
                            obtain ⟨y, hy⟩ : ∃ y, l[j] = y := ⟨_, rfl⟩
                            have hlx : l[i]? = some x := by rw [List.getElem?_eq_getElem hil, hx]
                            have hly : l[j]? = some y := by rw [List.getElem?_eq_getElem hjl, hy]
                            have HVX := hid (HAV.out x (hx ▸ List.getElem_mem hil))
                            have HVY := hid (HAV.out y (hy ▸ List.getElem_mem hjl))
                            obtain ⟨q, hq⟩ : ∃ q, cl win x y = q := ⟨_, rfl⟩
                            have HCL := hid hq
                            have HED : Hid (G i j = q) := by unfold Hid; rw [HEG.out i j hin hjn, hx, hy, hq]
                            obtain ⟨b, o, rfl, hb, hc⟩ := rowA_cells HA.out (by omega)
                            have hwy0 : Below w.heap.size w wy := hB.out.trans (hB5.out.mono hB.out.size)
                            have KX : Hid (∀ w1 : World, Below wy.heap.size wy w1 → AlAt w1 b (o + i * 5) x) := fun w1 hb1 => hc i x hlx w1 (hwy0.trans (hb1.mono hwy0.size))
                            have KY : Hid (∀ w1 : World, Below wy.heap.size wy w1 → AlAt w1 b (o + j * 5) y) := fun w1 hb1 => hc j y hly w1 (hwy0.trans (hb1.mono hwy0.size))
                            obtain ⟨t1, c1, f1, u1, s1⟩ := x
                            obtain ⟨t2, c2, f2, u2, s2⟩ := y
                            clear hx hy hlx hly hq hc
                            cases q
                            · have HPS3 := hid (hps2.out.skip (fun he => by rw [HED.out] at he; cases he))
                              go_wp2_with fail
                              refine wp_region_held_drew (S := fun w1 => Below wy.heap.size wy w1) (by kernel_rfl) (bdr (Below.refl _ _)) (fun hHeld => ?_)
                              refine wpAnyH_take (i := 0) (v := ?vvb0) rfl (by kernel_rfl) (by kernel_rfl) (by kernel_rfl) (fun _ _ _ h => h) (Or.inl ⟨by rfl, ?hyb0⟩) (by assumption) ?restb0
                              case hyb0 => (intro w0 hw0; go_simp; try with_reducible rfl)
                              try simp only [Act.put, List.setIfInBounds_toArray, List.set_cons_zero, List.set_cons_succ, List.getElem_toArray, List.getElem_cons_zero]
                              refine wpAnyH_take (i := 1) (v := ?vvb1) rfl (by kernel_rfl) (by kernel_rfl) (by kernel_rfl) (fun _ _ _ h => h) (Or.inl ⟨by rfl, ?hyb1⟩) (by assumption) ?restb1
                              case hyb1 => (intro w0 hw0; go_simp; try with_reducible rfl)
                              try simp only [Act.put, List.setIfInBounds_toArray, List.set_cons_zero, List.set_cons_succ, List.getElem_toArray, List.getElem_cons_zero, List.getElem_cons_succ]
                              refine wpAnyH_take (i := 2) (v := ?vvb2) rfl (by kernel_rfl) (by kernel_rfl) (by kernel_rfl) (fun _ _ _ h => h) (Or.inl ⟨by rfl, ?hyb2⟩) (by assumption) ?restb2
                              case hyb2 => (intro w0 hw0; go_simp; try with_reducible rfl)
                              try simp only [Act.put, List.setIfInBounds_toArray, List.set_cons_zero, List.set_cons_succ, List.getElem_toArray, List.getElem_cons_zero, List.getElem_cons_succ]
                              refine wpAnyH_take (i := 3) (v := ?vvb3) rfl (by kernel_rfl) (by kernel_rfl) (by kernel_rfl) (fun _ _ _ h => h) (Or.inl ⟨by rfl, ?hyb3⟩) (by assumption) ?restb3
                              case hyb3 => (intro w0 hw0; obtain ⟨x0, x1⟩ := KL.out _ hw0; go_simp; try with_reducible rfl)
                              try simp only [Act.put, List.setIfInBounds_toArray, List.set_cons_zero, List.set_cons_succ, List.getElem_toArray, List.getElem_cons_zero, List.getElem_cons_succ]
                              refine wpAnyH_take (i := 4) (v := ?vvb4) rfl (by kernel_rfl) (by kernel_rfl) (by kernel_rfl) (fun _ _ _ h => h) (Or.inl ⟨by rfl, ?hyb4⟩) (by assumption) ?restb4
                              case hyb4 => (intro w0 hw0; go_simp; try with_reducible rfl)
                              try simp only [Act.put, List.setIfInBounds_toArray, List.set_cons_zero, List.set_cons_succ, List.getElem_toArray, List.getElem_cons_zero, List.getElem_cons_succ]
                              refine wpAnyH_take (i := 5) (v := ?vvb5) rfl (by kernel_rfl) (by kernel_rfl) (by kernel_rfl) (fun _ _ _ h => h) (Or.inl ⟨by rfl, ?hyb5⟩) (by assumption) ?restb5
                              case hyb5 => (intro w0 hw0; go_simp; try with_reducible rfl)
                              try simp only [Act.put, List.setIfInBounds_toArray, List.set_cons_zero, List.set_cons_succ, List.getElem_toArray, List.getElem_cons_zero, List.getElem_cons_succ]
                              refine wpAnyH_take (i := 6) (v := ?vvb6) rfl (by kernel_rfl) (by kernel_rfl) (by kernel_rfl) (fun _ _ _ h => h) (Or.inl ⟨by rfl, ?hyb6⟩) (by assumption) ?restb6
                              case hyb6 => (intro w0 hw0; go_simp; try with_reducible rfl)
                              try simp only [Act.put, List.setIfInBounds_toArray, List.set_cons_zero, List.set_cons_succ, List.getElem_toArray, List.getElem_cons_zero, List.getElem_cons_succ]
                              refine wpAnyH_take (i := 7) (v := ?vvb7) rfl (by kernel_rfl) (by kernel_rfl) (by kernel_rfl) (fun _ _ _ h => h) (Or.inl ⟨by rfl, ?hyb7⟩) (by assumption) ?restb7
                              case hyb7 => (intro w0 hw0; obtain ⟨x0, x1⟩ := KL.out _ hw0; go_simp; try with_reducible rfl)
                              try simp only [Act.put, List.setIfInBounds_toArray, List.set_cons_zero, List.set_cons_succ, List.getElem_toArray, List.getElem_cons_zero, List.getElem_cons_succ]
                              refine wpAnyH_take (i := 8) (v := ?vvb8) rfl (by kernel_rfl) (by kernel_rfl) (by kernel_rfl) (fun _ _ _ h => h) (Or.inl ⟨by rfl, ?hyb8⟩) (by assumption) ?restb8
                              case hyb8 => (intro w0 hw0; go_simp; try with_reducible rfl)
                              try simp only [Act.put, List.setIfInBounds_toArray, List.set_cons_zero, List.set_cons_succ, List.getElem_toArray, List.getElem_cons_zero, List.getElem_cons_succ]
                              refine wpAnyH_take (i := 9) (v := ?vvb9) rfl (by kernel_rfl) (by kernel_rfl) (by kernel_rfl) (fun _ _ _ h => h) (Or.inl ⟨by rfl, ?hyb9⟩) (by assumption) ?restb9
                              case hyb9 => (intro w0 hw0; go_simp; try with_reducible rfl)
                              try simp only [Act.put, List.setIfInBounds_toArray, List.set_cons_zero, List.set_cons_succ, List.getElem_toArray, List.getElem_cons_zero, List.getElem_cons_succ]
                              refine wpAnyH_take (i := 10) (v := ?vvb10) rfl (by kernel_rfl) (by kernel_rfl) (by kernel_rfl) (fun _ _ _ h => h) (Or.inl ⟨by rfl, ?hyb10⟩) (by assumption) ?restb10
                              case hyb10 => (intro w0 hw0; go_simp; try with_reducible rfl)
                              try simp only [Act.put, List.setIfInBounds_toArray, List.set_cons_zero, List.set_cons_succ, List.getElem_toArray, List.getElem_cons_zero, List.getElem_cons_succ]
                              refine wpAnyH_take (i := 11) (v := ?vvb11) rfl (by kernel_rfl) (by kernel_rfl) (by kernel_rfl) (fun _ _ _ h => h) (Or.inl ⟨by rfl, ?hyb11⟩) (by assumption) ?restb11
                              case hyb11 => (intro w0 hw0; go_simp; try with_reducible rfl)
                              try simp only [Act.put, List.setIfInBounds_toArray, List.set_cons_zero, List.set_cons_succ, List.getElem_toArray, List.getElem_cons_zero, List.getElem_cons_succ]
                              refine wpAnyH_take (i := 12) (v := ?vvb12) rfl (by kernel_rfl) (by kernel_rfl) (by kernel_rfl) (fun _ _ _ h => h) (Or.inl ⟨by rfl, ?hyb12⟩) (by assumption) ?restb12
                              case hyb12 => (intro w0 hw0; go_simp; try with_reducible rfl)
                              try simp only [Act.put, List.setIfInBounds_toArray, List.set_cons_zero, List.set_cons_succ, List.getElem_toArray, List.getElem_cons_zero, List.getElem_cons_succ]
                              refine wpAnyH_take (i := 13) (v := ?vvb13) rfl (by kernel_rfl) (by kernel_rfl) (by kernel_rfl) (fun _ _ _ h => h) (Or.inl ⟨by rfl, ?hyb13⟩) (by assumption) ?restb13
                              case hyb13 => (intro w0 hw0; obtain ⟨x0, x1, x2, x3, x4⟩ := KX.out _ hw0; dsimp only at x0 x1 x2 x3 x4; go_simp; try with_reducible rfl)
                              try simp only [Act.put, List.setIfInBounds_toArray, List.set_cons_zero, List.set_cons_succ, List.getElem_toArray, List.getElem_cons_zero, List.getElem_cons_succ]
                              refine wpAnyH_take (i := 14) (v := ?vvb14) rfl (by kernel_rfl) (by kernel_rfl) (by kernel_rfl) (fun _ _ _ h => h) (Or.inl ⟨by rfl, ?hyb14⟩) (by assumption) ?restb14
                              case hyb14 => (intro w0 hw0; go_simp; try with_reducible rfl)
                              try simp only [Act.put, List.setIfInBounds_toArray, List.set_cons_zero, List.set_cons_succ, List.getElem_toArray, List.getElem_cons_zero, List.getElem_cons_succ]
                              refine wpAnyH_take (i := 15) (v := ?vvb15) rfl (by kernel_rfl) (by kernel_rfl) (by kernel_rfl) (fun _ _ _ h => h) (Or.inl ⟨by rfl, ?hyb15⟩) (by assumption) ?restb15
                              case hyb15 => (intro w0 hw0; go_simp; try with_reducible rfl)
                              try simp only [Act.put, List.setIfInBounds_toArray, List.set_cons_zero, List.set_cons_succ, List.getElem_toArray, List.getElem_cons_zero, List.getElem_cons_succ]
                              refine wpAnyH_take (i := 16) (v := ?vvb16) rfl (by kernel_rfl) (by kernel_rfl) (by kernel_rfl) (fun _ _ _ h => h) (Or.inl ⟨by rfl, ?hyb16⟩) (by assumption) ?restb16
                              case hyb16 => (intro w0 hw0; go_simp; try with_reducible rfl)
                              try simp only [Act.put, List.setIfInBounds_toArray, List.set_cons_zero, List.set_cons_succ, List.getElem_toArray, List.getElem_cons_zero, List.getElem_cons_succ]
                              refine wpAnyH_take (i := 17) (v := ?vvb17) rfl (by kernel_rfl) (by kernel_rfl) (by kernel_rfl) (fun _ _ _ h => h) (Or.inl ⟨by rfl, ?hyb17⟩) (by assumption) ?restb17
                              case hyb17 => (intro w0 hw0; obtain ⟨y0, y1, y2, y3, y4⟩ := KY.out _ hw0; dsimp only at y0 y1 y2 y3 y4; go_simp; try with_reducible rfl)
                              try simp only [Act.put, List.setIfInBounds_toArray, List.set_cons_zero, List.set_cons_succ, List.getElem_toArray, List.getElem_cons_zero, List.getElem_cons_succ]
                              refine wpAnyH_take (i := 18) (v := ?vvb18) rfl (by kernel_rfl) (by kernel_rfl) (by kernel_rfl) (fun _ _ _ h => h) (Or.inl ⟨by rfl, ?hyb18⟩) (by assumption) ?restb18
                              case hyb18 => (intro w0 hw0; go_simp; try with_reducible rfl)
                              try simp only [Act.put, List.setIfInBounds_toArray, List.set_cons_zero, List.set_cons_succ, List.getElem_toArray, List.getElem_cons_zero, List.getElem_cons_succ]
                              refine wpAnyH_ready (rs := [19]) (by kernel_rfl) (by simp) (AllReadyH.cons rfl (fun K hK => ?_) AllReadyH.nil)
                              go_simp
                              refine (Close_at HCL.out HVX.out HVY.out (Nat.le_refl _) (by assumption)).mono ?_; rintro e w7 ⟨rfl, hb7⟩; try (go_wp2_with fail)
                              refine hK.out _ _ (by assumption) (fun hHeld => ?_)
                              clear hK K
                              try simp only [Act.put, List.setIfInBounds_toArray, List.set_cons_zero, List.set_cons_succ, List.getElem_toArray, List.getElem_cons_zero, List.getElem_cons_succ]
                              refine wpAnyH_take (i := 20) (v := ?vvb20) rfl (by kernel_rfl) (by kernel_rfl) (by kernel_rfl) (fun _ _ _ h => h) (Or.inl ⟨by rfl, ?hyb20⟩) (by assumption) ?restb20
                              case hyb20 => (intro w0 hw0; go_simp; try with_reducible rfl)
                              try simp only [Act.put, List.setIfInBounds_toArray, List.set_cons_zero, List.set_cons_succ, List.getElem_toArray, List.getElem_cons_zero, List.getElem_cons_succ]
                              refine wpAnyH_done (by kernel_rfl) ?_ _
                              have HT7 := hid (World.rowIs.of_block hT2.out (hHeld.block _ hol))
                              have HB7 := hid (hB5.out.trans (hHeld.mono hB5.out.size))
                              clear hHeld
                              go_wp2
                              go_roundw
                              case rel => exact ⟨L2, more2, j + 1, by omega, by go_num, rfl, HPS3, HT7, HB7⟩
                              case measure => simp [intOf]; omega
                            · have HPS3 := hid (hps2.out.hit hin hjn HED.out (by rw [HVI.out, HVJ.out]; exact hlt))
                              go_wp2_with fail
                              refine wp_region_held_drew (S := fun w1 => Below wy.heap.size wy w1) (by kernel_rfl) (bdr (Below.refl _ _)) (fun hHeld => ?_)
                              refine wpAnyH_take (i := 0) (v := ?vvc0) rfl (by kernel_rfl) (by kernel_rfl) (by kernel_rfl) (fun _ _ _ h => h) (Or.inl ⟨by rfl, ?hyc0⟩) (by assumption) ?restc0
                              case hyc0 => (intro w0 hw0; go_simp; try with_reducible rfl)
                              try simp only [Act.put, List.setIfInBounds_toArray, List.set_cons_zero, List.set_cons_succ, List.getElem_toArray, List.getElem_cons_zero]
                              refine wpAnyH_take (i := 1) (v := ?vvc1) rfl (by kernel_rfl) (by kernel_rfl) (by kernel_rfl) (fun _ _ _ h => h) (Or.inl ⟨by rfl, ?hyc1⟩) (by assumption) ?restc1
                              case hyc1 => (intro w0 hw0; go_simp; try with_reducible rfl)
                              try simp only [Act.put, List.setIfInBounds_toArray, List.set_cons_zero, List.set_cons_succ, List.getElem_toArray, List.getElem_cons_zero, List.getElem_cons_succ]
                              refine wpAnyH_take (i := 2) (v := ?vvc2) rfl (by kernel_rfl) (by kernel_rfl) (by kernel_rfl) (fun _ _ _ h => h) (Or.inl ⟨by rfl, ?hyc2⟩) (by assumption) ?restc2
                              case hyc2 => (intro w0 hw0; go_simp; try with_reducible rfl)
                              try simp only [Act.put, List.setIfInBounds_toArray, List.set_cons_zero, List.set_cons_succ, List.getElem_toArray, List.getElem_cons_zero, List.getElem_cons_succ]
                              refine wpAnyH_take (i := 3) (v := ?vvc3) rfl (by kernel_rfl) (by kernel_rfl) (by kernel_rfl) (fun _ _ _ h => h) (Or.inl ⟨by rfl, ?hyc3⟩) (by assumption) ?restc3
                              case hyc3 => (intro w0 hw0; obtain ⟨x0, x1⟩ := KL.out _ hw0; go_simp; try with_reducible rfl)
                              try simp only [Act.put, List.setIfInBounds_toArray, List.set_cons_zero, List.set_cons_succ, List.getElem_toArray, List.getElem_cons_zero, List.getElem_cons_succ]
                              refine wpAnyH_take (i := 4) (v := ?vvc4) rfl (by kernel_rfl) (by kernel_rfl) (by kernel_rfl) (fun _ _ _ h => h) (Or.inl ⟨by rfl, ?hyc4⟩) (by assumption) ?restc4
                              case hyc4 => (intro w0 hw0; go_simp; try with_reducible rfl)
                              try simp only [Act.put, List.setIfInBounds_toArray, List.set_cons_zero, List.set_cons_succ, List.getElem_toArray, List.getElem_cons_zero, List.getElem_cons_succ]
                              refine wpAnyH_take (i := 5) (v := ?vvc5) rfl (by kernel_rfl) (by kernel_rfl) (by kernel_rfl) (fun _ _ _ h => h) (Or.inl ⟨by rfl, ?hyc5⟩) (by assumption) ?restc5
                              case hyc5 => (intro w0 hw0; go_simp; try with_reducible rfl)
                              try simp only [Act.put, List.setIfInBounds_toArray, List.set_cons_zero, List.set_cons_succ, List.getElem_toArray, List.getElem_cons_zero, List.getElem_cons_succ]
                              refine wpAnyH_take (i := 6) (v := ?vvc6) rfl (by kernel_rfl) (by kernel_rfl) (by kernel_rfl) (fun _ _ _ h => h) (Or.inl ⟨by rfl, ?hyc6⟩) (by assumption) ?restc6
                              case hyc6 => (intro w0 hw0; go_simp; try with_reducible rfl)
                              try simp only [Act.put, List.setIfInBounds_toArray, List.set_cons_zero, List.set_cons_succ, List.getElem_toArray, List.getElem_cons_zero, List.getElem_cons_succ]
                              refine wpAnyH_take (i := 7) (v := ?vvc7) rfl (by kernel_rfl) (by kernel_rfl) (by kernel_rfl) (fun _ _ _ h => h) (Or.inl ⟨by rfl, ?hyc7⟩) (by assumption) ?restc7
                              case hyc7 => (intro w0 hw0; obtain ⟨x0, x1⟩ := KL.out _ hw0; go_simp; try with_reducible rfl)
                              try simp only [Act.put, List.setIfInBounds_toArray, List.set_cons_zero, List.set_cons_succ, List.getElem_toArray, List.getElem_cons_zero, List.getElem_cons_succ]
                              refine wpAnyH_take (i := 8) (v := ?vvc8) rfl (by kernel_rfl) (by kernel_rfl) (by kernel_rfl) (fun _ _ _ h => h) (Or.inl ⟨by rfl, ?hyc8⟩) (by assumption) ?restc8
                              case hyc8 => (intro w0 hw0; go_simp; try with_reducible rfl)
                              try simp only [Act.put, List.setIfInBounds_toArray, List.set_cons_zero, List.set_cons_succ, List.getElem_toArray, List.getElem_cons_zero, List.getElem_cons_succ]
                              refine wpAnyH_take (i := 9) (v := ?vvc9) rfl (by kernel_rfl) (by kernel_rfl) (by kernel_rfl) (fun _ _ _ h => h) (Or.inl ⟨by rfl, ?hyc9⟩) (by assumption) ?restc9
                              case hyc9 => (intro w0 hw0; go_simp; try with_reducible rfl)
                              try simp only [Act.put, List.setIfInBounds_toArray, List.set_cons_zero, List.set_cons_succ, List.getElem_toArray, List.getElem_cons_zero, List.getElem_cons_succ]
                              refine wpAnyH_take (i := 10) (v := ?vvc10) rfl (by kernel_rfl) (by kernel_rfl) (by kernel_rfl) (fun _ _ _ h => h) (Or.inl ⟨by rfl, ?hyc10⟩) (by assumption) ?restc10
                              case hyc10 => (intro w0 hw0; go_simp; try with_reducible rfl)
                              try simp only [Act.put, List.setIfInBounds_toArray, List.set_cons_zero, List.set_cons_succ, List.getElem_toArray, List.getElem_cons_zero, List.getElem_cons_succ]
                              refine wpAnyH_take (i := 11) (v := ?vvc11) rfl (by kernel_rfl) (by kernel_rfl) (by kernel_rfl) (fun _ _ _ h => h) (Or.inl ⟨by rfl, ?hyc11⟩) (by assumption) ?restc11
                              case hyc11 => (intro w0 hw0; go_simp; try with_reducible rfl)
                              try simp only [Act.put, List.setIfInBounds_toArray, List.set_cons_zero, List.set_cons_succ, List.getElem_toArray, List.getElem_cons_zero, List.getElem_cons_succ]
                              refine wpAnyH_take (i := 12) (v := ?vvc12) rfl (by kernel_rfl) (by kernel_rfl) (by kernel_rfl) (fun _ _ _ h => h) (Or.inl ⟨by rfl, ?hyc12⟩) (by assumption) ?restc12
                              case hyc12 => (intro w0 hw0; go_simp; try with_reducible rfl)
                              try simp only [Act.put, List.setIfInBounds_toArray, List.set_cons_zero, List.set_cons_succ, List.getElem_toArray, List.getElem_cons_zero, List.getElem_cons_succ]
                              refine wpAnyH_take (i := 13) (v := ?vvc13) rfl (by kernel_rfl) (by kernel_rfl) (by kernel_rfl) (fun _ _ _ h => h) (Or.inl ⟨by rfl, ?hyc13⟩) (by assumption) ?restc13
                              case hyc13 => (intro w0 hw0; obtain ⟨x0, x1, x2, x3, x4⟩ := KX.out _ hw0; dsimp only at x0 x1 x2 x3 x4; go_simp; try with_reducible rfl)
                              try simp only [Act.put, List.setIfInBounds_toArray, List.set_cons_zero, List.set_cons_succ, List.getElem_toArray, List.getElem_cons_zero, List.getElem_cons_succ]
                              refine wpAnyH_take (i := 14) (v := ?vvc14) rfl (by kernel_rfl) (by kernel_rfl) (by kernel_rfl) (fun _ _ _ h => h) (Or.inl ⟨by rfl, ?hyc14⟩) (by assumption) ?restc14
                              case hyc14 => (intro w0 hw0; go_simp; try with_reducible rfl)
                              try simp only [Act.put, List.setIfInBounds_toArray, List.set_cons_zero, List.set_cons_succ, List.getElem_toArray, List.getElem_cons_zero, List.getElem_cons_succ]
                              refine wpAnyH_take (i := 15) (v := ?vvc15) rfl (by kernel_rfl) (by kernel_rfl) (by kernel_rfl) (fun _ _ _ h => h) (Or.inl ⟨by rfl, ?hyc15⟩) (by assumption) ?restc15
                              case hyc15 => (intro w0 hw0; go_simp; try with_reducible rfl)
                              try simp only [Act.put, List.setIfInBounds_toArray, List.set_cons_zero, List.set_cons_succ, List.getElem_toArray, List.getElem_cons_zero, List.getElem_cons_succ]
                              refine wpAnyH_take (i := 16) (v := ?vvc16) rfl (by kernel_rfl) (by kernel_rfl) (by kernel_rfl) (fun _ _ _ h => h) (Or.inl ⟨by rfl, ?hyc16⟩) (by assumption) ?restc16
                              case hyc16 => (intro w0 hw0; go_simp; try with_reducible rfl)
                              try simp only [Act.put, List.setIfInBounds_toArray, List.set_cons_zero, List.set_cons_succ, List.getElem_toArray, List.getElem_cons_zero, List.getElem_cons_succ]
                              refine wpAnyH_take (i := 17) (v := ?vvc17) rfl (by kernel_rfl) (by kernel_rfl) (by kernel_rfl) (fun _ _ _ h => h) (Or.inl ⟨by rfl, ?hyc17⟩) (by assumption) ?restc17
                              case hyc17 => (intro w0 hw0; obtain ⟨y0, y1, y2, y3, y4⟩ := KY.out _ hw0; dsimp only at y0 y1 y2 y3 y4; go_simp; try with_reducible rfl)
                              try simp only [Act.put, List.setIfInBounds_toArray, List.set_cons_zero, List.set_cons_succ, List.getElem_toArray, List.getElem_cons_zero, List.getElem_cons_succ]
                              refine wpAnyH_take (i := 18) (v := ?vvc18) rfl (by kernel_rfl) (by kernel_rfl) (by kernel_rfl) (fun _ _ _ h => h) (Or.inl ⟨by rfl, ?hyc18⟩) (by assumption) ?restc18
                              case hyc18 => (intro w0 hw0; go_simp; try with_reducible rfl)
                              try simp only [Act.put, List.setIfInBounds_toArray, List.set_cons_zero, List.set_cons_succ, List.getElem_toArray, List.getElem_cons_zero, List.getElem_cons_succ]
                              refine wpAnyH_ready (rs := [19]) (by kernel_rfl) (by simp) (AllReadyH.cons rfl (fun K hK => ?_) AllReadyH.nil)
                              go_simp
                              refine (Close_at HCL.out HVX.out HVY.out (Nat.le_refl _) (by assumption)).mono ?_; rintro e w7 ⟨rfl, hb7⟩; try (go_wp2_with fail)
                              refine hK.out _ _ (by assumption) (fun hHeld => ?_)
                              clear hK K
                              try simp only [Act.put, List.setIfInBounds_toArray, List.set_cons_zero, List.set_cons_succ, List.getElem_toArray, List.getElem_cons_zero, List.getElem_cons_succ]
                              refine wpAnyH_take (i := 20) (v := ?vvc20) rfl (by kernel_rfl) (by kernel_rfl) (by kernel_rfl) (fun _ _ _ h => h) (Or.inl ⟨by rfl, ?hyc20⟩) (by assumption) ?restc20
                              case hyc20 => (intro w0 hw0; go_simp; try with_reducible rfl)
                              try simp only [Act.put, List.setIfInBounds_toArray, List.set_cons_zero, List.set_cons_succ, List.getElem_toArray, List.getElem_cons_zero, List.getElem_cons_succ]
                              refine wpAnyH_done (by kernel_rfl) ?_ _
                              obtain ⟨x0, x1⟩ := KL.out _ hHeld
                              have HT7 := hid (World.rowIs.of_block hT2.out (hHeld.block _ hol))
                              have HB7 := hid (hB5.out.trans (hHeld.mono hB5.out.size))
                              have ff := World.rowIs.frozen HT7.out i
                              have HT8 : Hid ((w7.setCell ⟨wa.heap.size, i, none⟩ (.int .i64 (vj : Nat))).rowIs wa.heap.size 3 n (fun q => .int .i64 (((fun q => if q = i then L2 j else L2 q) q : Nat)))) := by
                                refine (World.rowIs.set HT7.out i _).congr fun q _ => ?_
                                by_cases e : q = i
                                · simp [e, HVJ.out]
                                · simp [e]
                              clear hHeld
                              go_wp2
                              go_roundw
                              case rel => exact ⟨_, true, j + 1, by omega, by go_num, rfl, HPS3, HT8, HB7.out.setCell (p := ⟨wa.heap.size, i, none⟩) (Nat.le_refl _) _⟩
                              case measure => simp [intOf]; omega
                          · have hlt2 : decide (vj < vi) = false := decide_eq_false hlt
                            have HPS3 := hid (hps2.out.skip (fun _ => by rw [HVI.out, HVJ.out]; exact hlt))
                            go_wp2_with fail
                            refine wp_region_held_drew (S := fun w1 => Below wy.heap.size wy w1) (by kernel_rfl) (bdr (Below.refl _ _)) (fun hHeld => ?_)
                            refine wpAnyH_take (i := 0) (v := ?vva0) rfl (by kernel_rfl) (by kernel_rfl) (by kernel_rfl) (fun _ _ _ h => h) (Or.inl ⟨by rfl, ?hya0⟩) (by assumption) ?resta0
                            case hya0 => (intro w0 hw0; go_simp; try with_reducible rfl)
                            try simp only [Act.put, List.setIfInBounds_toArray, List.set_cons_zero, List.set_cons_succ, List.getElem_toArray, List.getElem_cons_zero]
                            refine wpAnyH_take (i := 1) (v := ?vva1) rfl (by kernel_rfl) (by kernel_rfl) (by kernel_rfl) (fun _ _ _ h => h) (Or.inl ⟨by rfl, ?hya1⟩) (by assumption) ?resta1
                            case hya1 => (intro w0 hw0; go_simp; try with_reducible rfl)
                            try simp only [Act.put, List.setIfInBounds_toArray, List.set_cons_zero, List.set_cons_succ, List.getElem_toArray, List.getElem_cons_zero, List.getElem_cons_succ]
                            refine wpAnyH_take (i := 2) (v := ?vva2) rfl (by kernel_rfl) (by kernel_rfl) (by kernel_rfl) (fun _ _ _ h => h) (Or.inl ⟨by rfl, ?hya2⟩) (by assumption) ?resta2
                            case hya2 => (intro w0 hw0; go_simp; try with_reducible rfl)
                            try simp only [Act.put, List.setIfInBounds_toArray, List.set_cons_zero, List.set_cons_succ, List.getElem_toArray, List.getElem_cons_zero, List.getElem_cons_succ]
                            refine wpAnyH_take (i := 3) (v := ?vva3) rfl (by kernel_rfl) (by kernel_rfl) (by kernel_rfl) (fun _ _ _ h => h) (Or.inl ⟨by rfl, ?hya3⟩) (by assumption) ?resta3
                            case hya3 => (intro w0 hw0; obtain ⟨x0, x1⟩ := KL.out _ hw0; go_simp; try with_reducible rfl)
                            try simp only [Act.put, List.setIfInBounds_toArray, List.set_cons_zero, List.set_cons_succ, List.getElem_toArray, List.getElem_cons_zero, List.getElem_cons_succ]
                            refine wpAnyH_take (i := 4) (v := ?vva4) rfl (by kernel_rfl) (by kernel_rfl) (by kernel_rfl) (fun _ _ _ h => h) (Or.inl ⟨by rfl, ?hya4⟩) (by assumption) ?resta4
                            case hya4 => (intro w0 hw0; go_simp; try with_reducible rfl)
                            try simp only [Act.put, List.setIfInBounds_toArray, List.set_cons_zero, List.set_cons_succ, List.getElem_toArray, List.getElem_cons_zero, List.getElem_cons_succ]
                            refine wpAnyH_take (i := 5) (v := ?vva5) rfl (by kernel_rfl) (by kernel_rfl) (by kernel_rfl) (fun _ _ _ h => h) (Or.inl ⟨by rfl, ?hya5⟩) (by assumption) ?resta5
                            case hya5 => (intro w0 hw0; go_simp; try with_reducible rfl)
                            try simp only [Act.put, List.setIfInBounds_toArray, List.set_cons_zero, List.set_cons_succ, List.getElem_toArray, List.getElem_cons_zero, List.getElem_cons_succ]
                            refine wpAnyH_take (i := 6) (v := ?vva6) rfl (by kernel_rfl) (by kernel_rfl) (by kernel_rfl) (fun _ _ _ h => h) (Or.inl ⟨by rfl, ?hya6⟩) (by assumption) ?resta6
                            case hya6 => (intro w0 hw0; go_simp; try with_reducible rfl)
                            try simp only [Act.put, List.setIfInBounds_toArray, List.set_cons_zero, List.set_cons_succ, List.getElem_toArray, List.getElem_cons_zero, List.getElem_cons_succ]
                            refine wpAnyH_take (i := 7) (v := ?vva7) rfl (by kernel_rfl) (by kernel_rfl) (by kernel_rfl) (fun _ _ _ h => h) (Or.inl ⟨by rfl, ?hya7⟩) (by assumption) ?resta7
                            case hya7 => (intro w0 hw0; obtain ⟨x0, x1⟩ := KL.out _ hw0; go_simp; try with_reducible rfl)
                            try simp only [Act.put, List.setIfInBounds_toArray, List.set_cons_zero, List.set_cons_succ, List.getElem_toArray, List.getElem_cons_zero, List.getElem_cons_succ]
                            refine wpAnyH_take (i := 8) (v := ?vva8) rfl (by kernel_rfl) (by kernel_rfl) (by kernel_rfl) (fun _ _ _ h => h) (Or.inl ⟨by rfl, ?hya8⟩) (by assumption) ?resta8
                            case hya8 => (intro w0 hw0; go_simp; try with_reducible rfl)
                            try simp only [Act.put, List.setIfInBounds_toArray, List.set_cons_zero, List.set_cons_succ, List.getElem_toArray, List.getElem_cons_zero, List.getElem_cons_succ]
                            refine wpAnyH_take (i := 9) (v := ?vva9) rfl (by kernel_rfl) (by kernel_rfl) (by kernel_rfl) (fun _ _ _ h => h) (Or.inl ⟨by rfl, ?hya9⟩) (by assumption) ?resta9
                            case hya9 => (intro w0 hw0; go_simp; try with_reducible rfl)
                            try simp only [Act.put, List.setIfInBounds_toArray, List.set_cons_zero, List.set_cons_succ, List.getElem_toArray, List.getElem_cons_zero, List.getElem_cons_succ]
                            refine wpAnyH_take (i := 10) (v := undef) rfl (by kernel_rfl) (by kernel_rfl) (by kernel_rfl) (fun _ _ _ h => h) (Or.inr ⟨by rfl, rfl⟩) (by assumption) ?_
                            try simp only [Act.put, List.setIfInBounds_toArray, List.set_cons_zero, List.set_cons_succ, List.getElem_toArray, List.getElem_cons_zero, List.getElem_cons_succ]
                            refine wpAnyH_take (i := 11) (v := undef) rfl (by kernel_rfl) (by kernel_rfl) (by kernel_rfl) (fun _ _ _ h => h) (Or.inr ⟨by rfl, rfl⟩) (by assumption) ?_
                            try simp only [Act.put, List.setIfInBounds_toArray, List.set_cons_zero, List.set_cons_succ, List.getElem_toArray, List.getElem_cons_zero, List.getElem_cons_succ]
                            refine wpAnyH_take (i := 12) (v := undef) rfl (by kernel_rfl) (by kernel_rfl) (by kernel_rfl) (fun _ _ _ h => h) (Or.inr ⟨by rfl, rfl⟩) (by assumption) ?_
                            try simp only [Act.put, List.setIfInBounds_toArray, List.set_cons_zero, List.set_cons_succ, List.getElem_toArray, List.getElem_cons_zero, List.getElem_cons_succ]
                            refine wpAnyH_take (i := 13) (v := undef) rfl (by kernel_rfl) (by kernel_rfl) (by kernel_rfl) (fun _ _ _ h => h) (Or.inr ⟨by rfl, rfl⟩) (by assumption) ?_
                            try simp only [Act.put, List.setIfInBounds_toArray, List.set_cons_zero, List.set_cons_succ, List.getElem_toArray, List.getElem_cons_zero, List.getElem_cons_succ]
                            refine wpAnyH_take (i := 14) (v := undef) rfl (by kernel_rfl) (by kernel_rfl) (by kernel_rfl) (fun _ _ _ h => h) (Or.inr ⟨by rfl, rfl⟩) (by assumption) ?_
                            try simp only [Act.put, List.setIfInBounds_toArray, List.set_cons_zero, List.set_cons_succ, List.getElem_toArray, List.getElem_cons_zero, List.getElem_cons_succ]
                            refine wpAnyH_take (i := 15) (v := undef) rfl (by kernel_rfl) (by kernel_rfl) (by kernel_rfl) (fun _ _ _ h => h) (Or.inr ⟨by rfl, rfl⟩) (by assumption) ?_
                            try simp only [Act.put, List.setIfInBounds_toArray, List.set_cons_zero, List.set_cons_succ, List.getElem_toArray, List.getElem_cons_zero, List.getElem_cons_succ]
                            refine wpAnyH_take (i := 16) (v := undef) rfl (by kernel_rfl) (by kernel_rfl) (by kernel_rfl) (fun _ _ _ h => h) (Or.inr ⟨by rfl, rfl⟩) (by assumption) ?_
                            try simp only [Act.put, List.setIfInBounds_toArray, List.set_cons_zero, List.set_cons_succ, List.getElem_toArray, List.getElem_cons_zero, List.getElem_cons_succ]
                            refine wpAnyH_take (i := 17) (v := undef) rfl (by kernel_rfl) (by kernel_rfl) (by kernel_rfl) (fun _ _ _ h => h) (Or.inr ⟨by rfl, rfl⟩) (by assumption) ?_
                            try simp only [Act.put, List.setIfInBounds_toArray, List.set_cons_zero, List.set_cons_succ, List.getElem_toArray, List.getElem_cons_zero, List.getElem_cons_succ]
                            refine wpAnyH_take (i := 18) (v := undef) rfl (by kernel_rfl) (by kernel_rfl) (by kernel_rfl) (fun _ _ _ h => h) (Or.inr ⟨by rfl, rfl⟩) (by assumption) ?_
                            try simp only [Act.put, List.setIfInBounds_toArray, List.set_cons_zero, List.set_cons_succ, List.getElem_toArray, List.getElem_cons_zero, List.getElem_cons_succ]
                            refine wpAnyH_take (i := 19) (v := undef) rfl (by kernel_rfl) (by kernel_rfl) (by kernel_rfl) (fun _ _ _ h => h) (Or.inr ⟨by rfl, rfl⟩) (by assumption) ?_
                            try simp only [Act.put, List.setIfInBounds_toArray, List.set_cons_zero, List.set_cons_succ, List.getElem_toArray, List.getElem_cons_zero, List.getElem_cons_succ]
                            refine wpAnyH_take (i := 20) (v := ?vva20) rfl (by kernel_rfl) (by kernel_rfl) (by kernel_rfl) (fun _ _ _ h => h) (Or.inl ⟨by rfl, ?hya20⟩) (by assumption) ?resta20
                            case hya20 => (intro w0 hw0; go_simp; try with_reducible rfl)
                            try simp only [Act.put, List.setIfInBounds_toArray, List.set_cons_zero, List.set_cons_succ, List.getElem_toArray, List.getElem_cons_zero, List.getElem_cons_succ]
                            refine wpAnyH_done (by kernel_rfl) ?_ _
                            have HT7 := hid (World.rowIs.of_block hT2.out (hHeld.block _ hol))
                            have HB7 := hid (hB5.out.trans (hHeld.mono hB5.out.size))
                            clear hHeld
                            go_wp2
                            go_roundw
                            case rel => exact ⟨L2, more2, j + 1, by omega, by go_num, rfl, HPS3, HT7, HB7⟩
                            case measure => simp [intOf]; omega
                        · obtain rfl : n = j := by omega
                          go_wp2
                          go_roundw
                          case rel => exact ⟨L2, more2, i + 1, by omega, by go_num, rfl, hps2.out.row, hT2, hB5⟩
                          case measure => simp [intOf]; omega
                    · obtain rfl : n = i := by omega
                      have HM2 := hid (mL_row hT1.out)
                      have HDN : Hid (more = false → Done G n L1) := fun h => by subst h; exact hps.out.done.2
                      have HLS : Hid (sumN n L1 + (if more = true then 1 else 0) < sumN n L + 1) := by
                        unfold Hid
                        cases more with
                        | true => have := hps.out.less rfl; simp; exact this
                        | false => have := hps.out.done.1; rw [this]; simp
                      go_wp2
                      go_roundw
                      case rel => exact ⟨L1, more, rfl, hps.out.lw, HDN, hT1, hB4⟩
                      case measure =>
                        have h1 := HMX.out
                        have h2 := HM2.out
                        have h3 := HLS.out
                        cases more <;> simp_all [mb_true, mb_false] <;> omega
end Go.Proofs.Ytfddnmibjaibhaa
