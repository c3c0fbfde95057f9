/- The examples of the merge chapter: head returns true. -/
import Derived.Test.YtfddnmibjaibhaaMD
namespace Go.Proofs.Ytfddnmibjaibhaa
open Go.RowKit

theorem RowG.below {w w' : World} {lo hi : Nat} {A : Option Addr} {gs : List (List Nat)} (h : RowG w lo hi A gs) (hb : Below hi w w') : RowG w' lo hi A gs := by
  rcases h with h | ⟨b, h1, h2, h3, h4⟩
  · exact .inl h
  · refine .inr ⟨b, h1, h2, h3, fun j l hj => ?_⟩
    obtain ⟨A', c, g1, g2⟩ := h4 j l hj
    refine ⟨A', c, (hb.cell (p := ⟨b, j, none⟩) (by simpa using h3)).trans g1, ?_⟩
    rcases g2 with g | ⟨b', e1, e2, e3, e4⟩
    · exact .inl g
    · exact .inr ⟨b', e1, e2, e3, fun i x hi => (hb.cell (p := ⟨b', i, none⟩) (by simpa using e3)).trans (e4 i x hi)⟩
/-- block g as it lies -/
def Bx (w : World) (g : Nat) (t : TypeId) (cs : Array Value) : Prop := w.heap[g]? = some (.cells cs t (0, 0))
theorem Bx.new (w : World) (t : TypeId) (cs : Array Value) : Bx (w.alloc (.cells cs t)) w.heap.size t cs := heap_alloc_new w _
theorem Bx.alloc {w : World} {g : Nat} {t : TypeId} {cs : Array Value} (h : Bx w g t cs) (o : Obj) : Bx (w.alloc o) g t cs := (Below.heap_alloc w o g (Array.getElem?_eq_some_iff.1 h).1).trans h
theorem Bx.lt {w : World} {g : Nat} {t : TypeId} {cs : Array Value} (h : Bx w g t cs) : g < w.heap.size := (Array.getElem?_eq_some_iff.1 h).1
theorem Bx.cell {w : World} {g : Nat} {t : TypeId} {cs : Array Value} (h : Bx w g t cs) (i : Nat) : w.cell? ⟨g, i, none⟩ = cs[i]? := cell_of_row w g i cs t (0, 0) h
theorem rowN_bx {w : World} {b lo hi : Nat} {l : List Nat} (h : Bx w b 3 (nv l).toArray) (h1 : lo ≤ b) (h2 : b < hi) : RowN w lo hi (some ⟨b, 0, none⟩) l :=
  .inr ⟨b, rfl, h1, h2, fun j x hj => by rw [h.cell]; simp [nv, hj]⟩
theorem rowG_bx {w : World} {b lo hi : Nat} {gs : List (List Nat)} {hs : List Value} (h : Bx w b 31 hs.toArray) (h1 : lo ≤ b) (h2 : b < hi)
    (h3 : ∀ (j : Nat) (l : List Nat), gs[j]? = some l → ∃ (b' c : Nat), hs[j]? = some (Value.slice (some ⟨b', 0, none⟩) l.length c) ∧ Bx w b' 3 (nv l).toArray ∧ lo ≤ b' ∧ b' < hi) : RowG w lo hi (some ⟨b, 0, none⟩) gs :=
  .inr ⟨b, rfl, h1, h2, fun j l hj => by
    obtain ⟨b', c, e1, e2, e3, e4⟩ := h3 j l hj
    exact ⟨_, c, by rw [h.cell]; simpa using e1, rowN_bx e2 e3 e4⟩⟩
theorem lit1 (u : World) (l1 : List Nat) : RowG ((u.alloc (.cells (nv l1).toArray 3)).alloc (.cells #[.slice (some ⟨u.heap.size, 0, none⟩) l1.length l1.length] 31)) 0 (u.heap.size + 2) (some ⟨u.heap.size + 1, 0, none⟩) [l1] := by
  have s1 : (u.alloc (.cells (nv l1).toArray 3)).heap.size = u.heap.size + 1 := by simp
  have b1 := Bx.new u 3 (nv l1).toArray
  have o := Bx.new (u.alloc (.cells (nv l1).toArray 3)) 31 #[.slice (some ⟨u.heap.size, 0, none⟩) l1.length l1.length]
  rw [s1] at o
  refine rowG_bx (hs := [.slice (some ⟨u.heap.size, 0, none⟩) l1.length l1.length]) o (Nat.zero_le _) (by omega) fun j l hj => ?_
  match j, hj with
  | 0, hj => simp at hj; subst hj; exact ⟨_, _, rfl, b1.alloc _, Nat.zero_le _, by omega⟩
theorem lit2 (u : World) (l1 l2 : List Nat) : RowG (((u.alloc (.cells (nv l1).toArray 3)).alloc (.cells (nv l2).toArray 3)).alloc (.cells #[.slice (some ⟨u.heap.size, 0, none⟩) l1.length l1.length, .slice (some ⟨u.heap.size + 1, 0, none⟩) l2.length l2.length] 31)) 0 (u.heap.size + 3) (some ⟨u.heap.size + 2, 0, none⟩) [l1, l2] := by
  have s1 : (u.alloc (.cells (nv l1).toArray 3)).heap.size = u.heap.size + 1 := by simp
  have s2 : ((u.alloc (.cells (nv l1).toArray 3)).alloc (.cells (nv l2).toArray 3)).heap.size = u.heap.size + 2 := by simp
  have b1 := Bx.new u 3 (nv l1).toArray
  have b2 := Bx.new (u.alloc (.cells (nv l1).toArray 3)) 3 (nv l2).toArray
  have o := Bx.new ((u.alloc (.cells (nv l1).toArray 3)).alloc (.cells (nv l2).toArray 3)) 31 #[.slice (some ⟨u.heap.size, 0, none⟩) l1.length l1.length, .slice (some ⟨u.heap.size + 1, 0, none⟩) l2.length l2.length]
  rw [s1] at b2
  rw [s2] at o
  refine rowG_bx (hs := [.slice (some ⟨u.heap.size, 0, none⟩) l1.length l1.length, .slice (some ⟨u.heap.size + 1, 0, none⟩) l2.length l2.length]) o (Nat.zero_le _) (by omega) fun j l hj => ?_
  match j, hj with
  | 0, hj => simp at hj; subst hj; exact ⟨_, _, rfl, (b1.alloc _).alloc _, Nat.zero_le _, by omega⟩
  | 1, hj => simp at hj; subst hj; exact ⟨_, _, rfl, b2.alloc _, Nat.zero_le _, by omega⟩
theorem lit3 (u : World) (l1 l2 l3 : List Nat) : RowG ((((u.alloc (.cells (nv l1).toArray 3)).alloc (.cells (nv l2).toArray 3)).alloc (.cells (nv l3).toArray 3)).alloc (.cells #[.slice (some ⟨u.heap.size, 0, none⟩) l1.length l1.length, .slice (some ⟨u.heap.size + 1, 0, none⟩) l2.length l2.length, .slice (some ⟨u.heap.size + 2, 0, none⟩) l3.length l3.length] 31)) 0 (u.heap.size + 4) (some ⟨u.heap.size + 3, 0, none⟩) [l1, l2, l3] := by
  have s1 : (u.alloc (.cells (nv l1).toArray 3)).heap.size = u.heap.size + 1 := by simp
  have s2 : ((u.alloc (.cells (nv l1).toArray 3)).alloc (.cells (nv l2).toArray 3)).heap.size = u.heap.size + 2 := by simp
  have s3 : (((u.alloc (.cells (nv l1).toArray 3)).alloc (.cells (nv l2).toArray 3)).alloc (.cells (nv l3).toArray 3)).heap.size = u.heap.size + 3 := by simp
  have b1 := Bx.new u 3 (nv l1).toArray
  have b2 := Bx.new (u.alloc (.cells (nv l1).toArray 3)) 3 (nv l2).toArray
  have b3 := Bx.new ((u.alloc (.cells (nv l1).toArray 3)).alloc (.cells (nv l2).toArray 3)) 3 (nv l3).toArray
  have o := Bx.new (((u.alloc (.cells (nv l1).toArray 3)).alloc (.cells (nv l2).toArray 3)).alloc (.cells (nv l3).toArray 3)) 31 #[.slice (some ⟨u.heap.size, 0, none⟩) l1.length l1.length, .slice (some ⟨u.heap.size + 1, 0, none⟩) l2.length l2.length, .slice (some ⟨u.heap.size + 2, 0, none⟩) l3.length l3.length]
  rw [s1] at b2
  rw [s2] at b3
  rw [s3] at o
  refine rowG_bx (hs := [.slice (some ⟨u.heap.size, 0, none⟩) l1.length l1.length, .slice (some ⟨u.heap.size + 1, 0, none⟩) l2.length l2.length, .slice (some ⟨u.heap.size + 2, 0, none⟩) l3.length l3.length]) o (Nat.zero_le _) (by omega) fun j l hj => ?_
  match j, hj with
  | 0, hj => simp at hj; subst hj; exact ⟨_, _, rfl, ((b1.alloc _).alloc _).alloc _, Nat.zero_le _, by omega⟩
  | 1, hj => simp at hj; subst hj; exact ⟨_, _, rfl, (b2.alloc _).alloc _, Nat.zero_le _, by omega⟩
  | 2, hj => simp at hj; subst hj; exact ⟨_, _, rfl, b3.alloc _, Nat.zero_le _, by omega⟩

/-- Groups at a list that is valid, its result named -/
theorem Groups_is {win : Int} {l : List Al} {gs : List (List Nat)} (hg : grp win l = gs) (hv : allV l = true) {m k : Nat} (hm : gs.length = m) (hk : l.length = k) (A : Option Addr) (c : Nat) (w : World) (hn : k ≤ 200) (hw : isM win = true) (hA : RowA w w.heap.size A l) :
    Calls Try.prog 30 #[.slice A k c, .int .i64 win] w fun e w' => ∃ A' c', e = .returned (.tuple #[.slice A' m c', .int .i64 0]) ∧ RowG w' w.heap.size w'.heap.size A' gs ∧ Below w.heap.size w w' := by
  subst hm hk hg
  refine (Groups_any A c l win w hn hw hA).mono ?_
  rintro e w' ⟨hb, ⟨_, A', c', rfl, hr⟩ | ⟨h, _⟩⟩
  · exact ⟨A', c', rfl, hr, hb⟩
  · rw [hv] at h; cases h
theorem Same_yes {gs hs : List (List Nat)} (he : gs = hs) {n m : Nat} (hn : gs.length = n) (hm : hs.length = m) (A1 A2 : Option Addr) (c1 c2 lo1 hi1 lo2 hi2 : Nat) (w : World) (h1 : RowG w lo1 hi1 A1 gs) (h2 : RowG w lo2 hi2 A2 hs) (hx : gs.length ≤ 1000000) (hX : ∀ l ∈ gs, l.length ≤ 1000000) :
    Calls Try.prog 37 #[.slice A1 n c1, .slice A2 m c2] w fun e w' => e = .returned (.bool true) ∧ Below w.heap.size w w' := by
  subst hn hm
  refine (Same_any A1 A2 c1 c2 lo1 hi1 lo2 hi2 gs hs w h1 h2 hx (by rw [← he]; exact hx) hX (by rw [← he]; exact hX)).mono ?_
  rintro e w' ⟨rfl, hb⟩
  exact ⟨by rw [decide_eq_true he], hb⟩

set_option maxHeartbeats 3200000 in
set_option maxRecDepth 100000 in
theorem head38_any (w : World) : Calls Try.prog 28 #[] w fun e w' => e = .returned (.bool true) ∧ Below w.heap.size w w' := by
  go_enter Try.func28, Try.ntmps28
  go_wp2_with fail
  refine (sample_any _).mono ?_
  rintro e w1 ⟨c, rfl, hA, hb1⟩
  have HA1 := hid hA
  have HB1 := hid hb1
  clear hA hb1
  go_wp2_with fail
  refine (Groups_is sl_3 sl_v rfl rfl _ _ _ (by decide) (by decide) HA1.out).mono ?_
  rintro e w2 ⟨A2, c2, rfl, hr2, hb2⟩
  have HA2 := hid ((HA1.out.kept hb2).wide hb2.size)
  have HB2 := hid (bl HB1.out hb2)
  have HG2 := hid (hr2.wide (Nat.zero_le _) (Nat.le_refl _))
  clear hr2 hb2 HA1 HB1
  go_wp2_with fail
  refine (Groups_is sl_2 sl_v rfl rfl _ _ _ (by decide) (by decide) HA2.out).mono ?_
  rintro e w3 ⟨A3, c3, rfl, hr3, hb3⟩
  have HA3 := hid ((HA2.out.kept hb3).wide hb3.size)
  have HB3 := hid (bl HB2.out hb3)
  have HG3 := hid (HG2.out.call hb3)
  have HH3 := hid (hr3.wide (Nat.zero_le _) (Nat.le_refl _))
  clear hr3 hb3 HA2 HB2 HG2
  go_wp2_with fail
  refine (Groups_is rfl sl_v sl_0 rfl _ _ _ (by decide) (by decide) HA3.out).mono ?_
  rintro e w4 ⟨A4, c4, rfl, hr4, hb4⟩
  have HA4 := hid ((HA3.out.kept hb4).wide hb4.size)
  have HB4 := hid (bl HB3.out hb4)
  have HG4 := hid (HG3.out.call hb4)
  have HH4 := hid (HH3.out.call hb4)
  clear hr4 hb4 HA3 HB3 HG3 HH3
  go_wp2_with fail
  refine (Groups_win _ _ _ _ _ (by decide) (by decide)).mono ?_
  rintro e w5 ⟨rfl, rfl⟩
  go_wp2_with fail
  refine (New_ok _ _ (by decide)).mono ?_
  rintro e w5 ⟨rfl, hset, hb5⟩
  have hw4 : w.heap.size ≤ w4.heap.size := HB4.out.size
  have HS5 := hid hset
  have HB5 := hid hb5
  clear hset hb5
  go_wp2_with fail
  go_loopw [12, 13] (fun z i wr => ∃ (k y : Nat) (v : Value), k ≤ 4 ∧ i = .int .i64 (k : Nat) ∧ z = .int .i64 (y : Nat) ∧ Hid (k = 4 → y = 4) ∧ Hid (SetAt wr w4.heap.size 80 (SL.take k) v) ∧ Hid (Below w4.heap.size w4 wr)) (fun _ i _ => 4 - (intOf i).toNat)
  case atStart => exact ⟨0, 0, _, by omega, rfl, rfl, fun h => by omega, HS5, HB5⟩
  case round =>
    obtain ⟨k, y, v, hk, rfl, rfl, hy, hS, hB⟩ := hrel
    by_cases hkn : k < 4
    · have hkl : k < SL.length := hkn
      obtain ⟨x, hx⟩ : ∃ x, SL[k] = x := ⟨_, rfl⟩
      have hlk : SL[k]? = some x := by rw [List.getElem?_eq_getElem hkl, hx]
      have htk : SL.take (k + 1) = SL.take k ++ [x] := by rw [List.take_succ_eq_append_getElem hkl, hx]
      have hv : isV x = true := allV_of.1 sl_v x (hx ▸ List.getElem_mem hkl)
      have hlen : (SL.take k).length = k := by rw [List.length_take]; show min k 4 = k; omega
      have ee : ∀ i, i < 5 → wr.cell? ⟨w.heap.size, 0 + k * 5 + i, none⟩ = (acell x)[i]? := fun i hi => by
        rcases HA4.out with h | ⟨b, o, e, hb, hc⟩
        · cases h
        · cases e
          exact (hB.out.cell (p := ⟨w.heap.size, 0 + k * 5 + i, none⟩) (by simpa using hb)).trans (hc k x hlk i hi)
      have hfin : k + 1 = 4 → (mem (k + 1) (col 80 (SL.take k ++ [x])) (col 80 (SL.take k ++ [x]) k)).length = 4 := by
        intro h
        obtain rfl : k = 3 := by omega
        rw [← htk]
        exact sl_4
      have HTK := hid htk
      have HLEN := hid hlen
      have HFIN := hid hfin
      have HPL := hS.out.uf.lt
      have HV := hid hv
      obtain ⟨t, cc, f, u, a⟩ := x
      have y0 := ee 0 (by omega)
      have y1 := ee 1 (by omega)
      have y2 := ee 2 (by omega)
      have y3 := ee 3 (by omega)
      have y4 := ee 4 (by omega)
      simp [acell] at y0 y1 y2 y3 y4
      clear ee hlk hx htk hlen hv hfin hy
      go_wp2_with fail
      refine (Add_ok w4.heap.size 80 (SL.take k) v ⟨t, cc, f, u, a⟩ _ hS.out HV.out (by rw [HLEN.out]; omega)).mono ?_
      rintro e w6 ⟨rfl, v2, hs2, hf2, hl2⟩
      have HS6 : Hid (SetAt w6 w4.heap.size 80 (SL.take (k + 1)) v2) := by unfold Hid; rw [HTK.out]; exact hs2
      have HB6 : Hid (Below w4.heap.size w4 w6) := Fr.below hB.out hf2 (Nat.le_refl _) (fun x hx => by
        rcases hx with h | h
        · omega
        · have := (hS.out.own.lt x h).1; omega)
      rw [HLEN.out]
      obtain ⟨z, hz⟩ : ∃ z, (mem (k + 1) (col 80 (SL.take k ++ [⟨t, cc, f, u, a⟩])) (col 80 (SL.take k ++ [⟨t, cc, f, u, a⟩]) k)).length = z := ⟨_, rfl⟩
      rw [hz]
      have HZ : Hid (k + 1 = 4 → z = 4) := fun h => by rw [← hz]; exact HFIN.out h
      clear hs2 hf2 hl2 hz
      go_wp2
      go_roundw
      case rel => exact ⟨k + 1, z, v2, by omega, by go_num, rfl, HZ, HS6, HB6⟩
      case measure => simp [intOf]; omega
    · obtain rfl : k = 4 := by omega
      obtain rfl := hy.out rfl
      have HS6 : Hid (SetAt wr w4.heap.size 80 SL v) := hS.out
      clear hy hS
      go_wp2_with fail
      refine (Add_ok w4.heap.size 80 SL v ⟨39, 0, 0, 0, 20⟩ _ HS6.out (by decide) (by decide)).mono ?_
      rintro e w6 ⟨rfl, v7, hs7, hf7, hl7⟩
      rw [show (mem (SL.length + 1) (col 80 (SL ++ [⟨39, 0, 0, 0, 20⟩])) (col 80 (SL ++ [⟨39, 0, 0, 0, 20⟩]) SL.length)).length = 5 from sl_5]
      have hB7 : Below w4.heap.size w4 w6 := Fr.below hB.out hf7 (Nat.le_refl _) (fun x hx => by
        rcases hx with h | h
        · omega
        · have := (HS6.out.own.lt x h).1; omega)
      have HS7 := hid hs7
      have HB7 := hid (bl HB4.out hB7)
      have HG7 := hid (HG4.out.call hB7)
      have HH7 := hid (HH4.out.call hB7)
      clear hs7 hf7 hl7 hB7 HS6 hB HG4 HH4 HB4
      go_wp2_with fail
      refine (Same_yes (gs := [[0, 2, 3], [1]]) rfl rfl rfl _ _ _ _ _ _ _ _ _ (HG7.out.below (ba (ba (ba (Below.refl _ _) _) _) _)) (lit2 w6 [0, 2, 3] [1]) (by decide) (by decide)).mono ?_
      rintro e w8 ⟨rfl, hb8⟩
      have hB8 := bl (ba (ba (ba (Below.refl w6.heap.size w6) _) _) _) hb8
      have HS8 := hid (HS7.out.kept (K := fun _ => False) ((Fr.refl _ w6).call hB8) (fun _ _ => id))
      have HB8 := hid (bl HB7.out hB8)
      have HH8 := hid (HH7.out.call hB8)
      clear hb8 hB8 HS7 HB7 HG7 HH7
      go_wp2_with fail
      refine (Same_yes (gs := [[0, 2], [1], [3]]) rfl rfl rfl _ _ _ _ _ _ _ _ _ (HH8.out.below (ba (ba (ba (ba (Below.refl _ _) _) _) _) _)) (lit3 w8 [0, 2] [1] [3]) (by decide) (by decide)).mono ?_
      rintro e w9 ⟨rfl, hb9⟩
      have hB9 := bl (ba (ba (ba (ba (Below.refl w8.heap.size w8) _) _) _) _) hb9
      have HS9 := hid (HS8.out.kept (K := fun _ => False) ((Fr.refl _ w8).call hB9) (fun _ _ => id))
      have HB9 := hid (bl HB8.out hB9)
      clear hb9 hB9 HS8 HB8 HH8
      go_wp2_with fail
      refine (SGroups_any w4.heap.size 80 (SL ++ [⟨39, 0, 0, 0, 20⟩]) v7 _ HS9.out).mono ?_
      rintro e wa ⟨out, rfl, ho, hs, hf⟩
      rw [show gl (SL ++ [(⟨39, 0, 0, 0, 20⟩ : Al)]).length (col 80 (SL ++ [(⟨39, 0, 0, 0, 20⟩ : Al)])) = [[0, 1, 2, 3, 4]] from sl_80] at ho
      obtain ⟨Aa, ca, rfl, hr⟩ := ho.read
      have HRa := hid hr
      have HBa := hid (Fr.below HB9.out hf (Nat.le_refl _) (fun x hx => by omega))
      clear ho hr hs hf HS9 HB9
      go_wp2_with fail
      refine (Same_yes (gs := [[0, 1, 2, 3, 4]]) rfl rfl rfl _ _ _ _ _ _ _ _ _ (HRa.out.below (ba (ba (Below.refl _ _) _) _)) (lit1 wa [0, 1, 2, 3, 4]) (by decide) (by decide)).mono ?_
      rintro e wb ⟨rfl, hbb⟩
      have HBb := hid (bl HBa.out (bl (ba (ba (Below.refl wa.heap.size wa) _) _) hbb))
      clear hbb
      go_wp2
      go_ret
      exact ⟨rfl, HBb.out⟩
end Go.Proofs.Ytfddnmibjaibhaa
