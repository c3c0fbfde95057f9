/- Groups of package merge. -/
import Derived.Test.YtfddnmibjaibhaaMA
namespace Go.Proofs.Ytfddnmibjaibhaa
open Go.RowKit

theorem Groups_long (A : Option Addr) (c n : Nat) (win : Int) (w : World) (hn : 200 < n) (h2 : n ≤ 1000000) :
    Calls Try.prog 30 #[.slice A n c, .int .i64 win] w fun e w' => e = .returned (.tuple #[.slice none 0 0, .int .i64 2]) ∧ w = w' := by
  go_enter Try.func30, Try.ntmps30
  go_wp2
  go_ret2
  exact ⟨rfl, rfl⟩
theorem Groups_win (A : Option Addr) (c n : Nat) (win : Int) (w : World) (hn : n ≤ 200) (hw : isM win = false) :
    Calls Try.prog 30 #[.slice A n c, .int .i64 win] w fun e w' => e = .returned (.tuple #[.slice none 0 0, .int .i64 1]) ∧ w = w' := by
  have HW := hid hw
  clear hw
  go_enter Try.func30, Try.ntmps30
  go_wp2_with fail
  refine (New_bad _ _ HW.out).mono ?_
  rintro e w1 ⟨rfl, rfl⟩
  go_wp2
  go_ret2
  exact ⟨rfl, rfl⟩

/-- the groups of a list of alerts -/
def grp (win : Int) (l : List Al) : List (List Nat) := gl l.length (col win l)
def allV (l : List Al) : Bool := l.all isV
theorem allV_of {l : List Al} : allV l = true ↔ ∀ x ∈ l, isV x = true := by unfold allV; rw [List.all_eq_true]

set_option maxHeartbeats 3200000 in
set_option maxRecDepth 100000 in
theorem Groups_any (A : Option Addr) (c : Nat) (l : List Al) (win : Int) (w : World) (hn : l.length ≤ 200) (hw : isM win = true) (hA : RowA w w.heap.size A l) :
    Calls Try.prog 30 #[.slice A l.length c, .int .i64 win] w fun e w' => Below w.heap.size w w' ∧
      ((allV l = true ∧ ∃ A' c', e = .returned (.tuple #[.slice A' (grp win l).length c', .int .i64 0]) ∧ RowG w' w.heap.size w'.heap.size A' (grp win l)) ∨
       (allV l = false ∧ e = .returned (.tuple #[.slice none 0 0, .int .i64 1]))) := by
  obtain ⟨n, hln⟩ : ∃ n, l.length = n := ⟨_, rfl⟩
  have HW := hid hw
  have HA := hid hA
  have HN := hid hln
  rw [hln] at hn ⊢
  obtain ⟨R, hR⟩ : ∃ R : Ending → World → Prop, R = fun e w' => Below w.heap.size w w' ∧
      ((allV l = true ∧ ∃ A' c', e = .returned (.tuple #[.slice A' (grp win l).length c', .int .i64 0]) ∧ RowG w' w.heap.size w'.heap.size A' (grp win l)) ∨
       (allV l = false ∧ e = .returned (.tuple #[.slice none 0 0, .int .i64 1]))) := ⟨_, rfl⟩
  have HR := hid hR
  rw [← hR]
  clear hw hA hln hR
  go_enter Try.func30, Try.ntmps30
  go_wp2_with fail
  refine (New_ok _ _ HW.out).mono ?_
  rintro e w1 ⟨rfl, hset, hb1⟩
  have HS1 := hid hset
  have HB1 := hid hb1
  clear hset hb1
  go_wp2_with fail
  go_loopw [25] (fun i wr => ∃ (k : Nat) (v : Value), k ≤ n ∧ i = .int .i64 (k : Nat) ∧ Hid (SetAt wr w.heap.size win (l.take k) v) ∧ Hid (Below w.heap.size w wr)) (fun i _ => n - (intOf i).toNat)
  case atStart => exact ⟨0, _, Nat.zero_le _, rfl, HS1, HB1⟩
  case round =>
    obtain ⟨k, v, hk, rfl, hS, hB⟩ := hrel
    by_cases hkn : k < n
    · have hkl : k < l.length := by rw [HN.out]; exact hkn
      have hlk : l[k]? = some l[k] := List.getElem?_eq_getElem hkl
      obtain ⟨x, hx⟩ : ∃ x, l[k] = x := ⟨_, rfl⟩
      rw [hx] at hlk
      have htk : l.take (k + 1) = l.take k ++ [x] := by rw [List.take_succ_eq_append_getElem hkl, hx]
      have hmem : x ∈ l := hx ▸ List.getElem_mem hkl
      have hlen : (l.take k).length = k := by rw [List.length_take]; omega
      rcases HA.out with hnil | ⟨b, o, rfl, hb, hc⟩
      · rw [hnil] at hkl; simp at hkl
      have ee : ∀ i, i < 5 → wr.cell? ⟨b, o + k * 5 + i, none⟩ = (acell x)[i]? := fun i hi => (hB.out.cell (p := ⟨b, o + k * 5 + i, none⟩) (by simpa using hb)).trans (hc k x hlk i hi)
      have HX := hid hx
      have HTK := hid htk
      have HMEM := hid hmem
      have HLEN := hid hlen
      have HPL := hS.out.uf.lt
      obtain ⟨V, hV⟩ : ∃ V, isV x = V := ⟨_, rfl⟩
      have HV := hid hV
      obtain ⟨t, cc, f, u, a⟩ := x
      have y0 := ee 0 (by omega)
      have y1 := ee 1 (by omega)
      have y2 := ee 2 (by omega)
      have y3 := ee 3 (by omega)
      have y4 := ee 4 (by omega)
      simp [acell] at y0 y1 y2 y3 y4
      clear ee hc hlk hx htk hmem hlen hV
      cases V
      · go_wp2_with fail
        refine (Add_bad w.heap.size ⟨t, cc, f, u, a⟩ _ HV.out).mono ?_
        rintro e w2 ⟨rfl, hb2⟩
        have HB2 := hid (bl (ba hB.out _) hb2)
        clear hb2
        go_wp2
        rw [HR.out]
        refine ⟨HB2.out, .inr ⟨?_, rfl⟩⟩
        cases h : allV l with
        | false => rfl
        | true => have := allV_of.1 h _ HMEM.out; rw [HV.out] at this; cases this
      · go_wp2_with fail
        refine (Add_ok w.heap.size win (l.take k) v ⟨t, cc, f, u, a⟩ _ (hS.out.kept (K := fun _ => False) ((Fr.refl _ wr).alloc _) (fun _ _ => id)) HV.out (by rw [HLEN.out]; omega)).mono ?_
        rintro e w2 ⟨rfl, v2, hs2, hf2, hl2⟩
        have HS2 : Hid (SetAt w2 w.heap.size win (l.take (k + 1)) v2) := by unfold Hid; rw [HTK.out]; exact hs2
        have HB2 : Hid (Below w.heap.size w w2) := Fr.below (ba hB.out _) hf2 (Nat.le_refl _) (fun x hx => by
          rcases hx with h | h
          · omega
          · have := (hS.out.own.lt x h).1; omega)
        clear hs2 hf2 hl2
        go_wp2
        go_roundw
        case rel => exact ⟨k + 1, v2, by omega, by go_num, HS2, HB2⟩
        case measure => simp [intOf]; omega
    · obtain rfl : k = n := by omega
      have htk : l.take k = l := List.take_of_length_le (by rw [HN.out]; exact Nat.le_refl _)
      have HS2 : Hid (SetAt wr w.heap.size win l v) := by have := hS.out; rwa [htk] at this
      clear htk hS
      go_wp2_with fail
      refine (SGroups_any w.heap.size win l v _ HS2.out).mono ?_
      rintro e w2 ⟨out, rfl, ho, hs2, hf2⟩
      obtain ⟨A', c', rfl, hr⟩ := ho.read
      have hsz : w.heap.size ≤ wr.heap.size + 1 := Nat.le_succ_of_le hB.out.size
      have HRD := hid (RowG.wide hr hsz (Nat.le_refl _))
      have HB2 : Hid (Below w.heap.size w w2) := Fr.below hB.out hf2 (Nat.le_refl _) (fun x hx => by omega)
      clear ho hs2 hf2 hr
      go_wp2
      rw [HR.out]
      exact ⟨HB2.out, .inl ⟨allV_of.2 HS2.out.ok, A', c', rfl, HRD.out⟩⟩
end Go.Proofs.Ytfddnmibjaibhaa
