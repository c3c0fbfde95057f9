/- The set of the reference of merge: New, Groups. -/
import Derived.Test.YtfddnmibjaibhaaMP
namespace Go.Proofs.Ytfddnmibjaibhaa
open Go.RowKit Go.Maps

/-- a set of the reference in memory: block q, its alerts in the slice v -/
structure RSetAt (w : World) (q : Nat) (win : Int) (l : List Al) (v : Value) : Prop where
  row : w.rowIs q 83 2 (fun i => if i = 0 then .int .i64 win else v)
  mw : isM win = true
  ok : ∀ x ∈ l, isV x = true
  own : w.ownsRow (q + 1) 52 5 v l.length (alCells l)
  le : l.length ≤ 200
/-- the blocks of such a set -/
def RSetK (q : Nat) (v : Value) (k : Nat) : Prop := k = q ∨ v.ownBlock = some k
theorem RSetAt.kept {w w' : World} {q : Nat} {win : Int} {l : List Al} {v : Value} {K : Nat → Prop} (h : RSetAt w q win l v) (hf : Fr K w w') (hK : ∀ k, RSetK q v k → ¬ K k) : RSetAt w' q win l v :=
  ⟨World.rowIs.of_block h.row (hf.block q (World.rowIs.lt h.row) (hK q (.inl rfl))), h.mw, h.ok, hf.own h.own (fun g hg => hK g (.inr hg)), h.le⟩
theorem RSetAt.lt {w : World} {q : Nat} {win : Int} {l : List Al} {v : Value} (h : RSetAt w q win l v) : q < w.heap.size := World.rowIs.lt h.row
theorem RSetAt.cells {w : World} {q : Nat} {win : Int} {l : List Al} {v : Value} (h : RSetAt w q win l v) : w.cell? ⟨q, 0, none⟩ = some (.int .i64 win) ∧ w.cell? ⟨q, 1, none⟩ = some v :=
  ⟨World.rowIs.cell h.row (i := 0) (by omega), World.rowIs.cell h.row (i := 1) (by omega)⟩

set_option maxHeartbeats 800000 in
theorem rNew_bad (win : Int) (w : World) (hw : isM win = false) :
    Calls Try.prog 38 #[.int .i64 win] w fun e w' => e = .returned (.tuple #[.pointer none, .int .i64 1]) ∧ w = w' := by
  have HW := hid hw
  clear hw
  go_enter Try.func38, Try.ntmps38
  go_wp2_with fail
  refine (rmoment_any _ _).mono ?_
  rintro e w1 ⟨rfl, rfl⟩
  rw [HW.out]
  go_wp2
  go_ret2
  exact ⟨rfl, rfl⟩
set_option maxHeartbeats 800000 in
theorem rNew_ok (win : Int) (w : World) (hw : isM win = true) :
    Calls Try.prog 38 #[.int .i64 win] w fun e w' => e = .returned (.tuple #[.pointer (some ⟨w.heap.size, 0, none⟩), .int .i64 0]) ∧ RSetAt w' w.heap.size win [] (.slice none 0 0) ∧ Below w.heap.size w w' := by
  have HW := hid hw
  clear hw
  go_enter Try.func38, Try.ntmps38
  go_wp2_with fail
  refine (rmoment_any _ _).mono ?_
  rintro e w1 ⟨rfl, rfl⟩
  rw [HW.out]
  go_wp2_with fail
  go_ret2
  refine ⟨rfl, ⟨?_, HW.out, by simp, World.ownsRow_nil _ _ _ _, by simp⟩, (Below.refl _ _).alloc (Nat.le_refl _) _⟩
  have h := World.rowIs_alloc w #[.int .i64 win, .slice none 0 0] 83 (fun i => if i = 0 then .int .i64 win else .slice none 0 0) (fun i hi => by
    have hi : i < 2 := hi
    match i, hi with
    | 0, _ => rfl
    | 1, _ => rfl)
  exact h
set_option maxHeartbeats 3200000 in
set_option maxRecDepth 100000 in
theorem rSGroups_at {q n G : Nat} {win : Int} {l : List Al} {v : Value} {c : Nat → Nat} (hn : l.length = n) (hc : col win l = c) (hG : (gl n c).length = G) (w : World) (h : RSetAt w q win l v) :
    Calls Try.prog 40 #[.pointer (some ⟨q, 0, none⟩)] w fun e w' => ∃ A cp, e = .returned (.slice A G cp) ∧ RowG w' 0 w'.heap.size A (gl n c) ∧ Below w.heap.size w w' := by
  have HN := hid hn
  have HGC : Hid ((gl n (col win l)).length = G) := by unfold Hid; rw [hc]; exact hG
  have HC := hid hc
  obtain ⟨E, hE⟩ : ∃ E, errG l = E := ⟨_, rfl⟩
  have HE := hid hE
  have HOK := hid (okG_valid h.ok h.le h.mw)
  obtain ⟨A, cp, rfl, hA⟩ := own_rowA h.own
  have HA := hid hA
  obtain ⟨c0, c1⟩ := h.cells
  rw [hn] at c1
  have hq := h.lt
  have hn2 : n ≤ 200 := by rw [← hn]; exact h.le
  have KP : Hid (∀ w1 : World, Below w.heap.size w w1 → w1.cell? ⟨q, 0, none⟩ = some (.int .i64 win) ∧ w1.cell? ⟨q, 1, none⟩ = some (.slice A n cp)) := fun w1 hb => ⟨(hb.cell (p := ⟨q, 0, none⟩) (by simpa using hq)).trans c0, (hb.cell (p := ⟨q, 1, none⟩) (by simpa using hq)).trans c1⟩
  clear hn hc hG hE h hA c0 c1
  go_enter Try.func40, Try.ntmps40
  go_wp2_with fail
  refine wp_region_held_drew (S := fun w1 => Below w.heap.size w w1) (by kernel_rfl) (bdr (Below.refl _ _)) (fun hHeld => ?_)
  refine wpAnyH_take (i := 0) (v := ?vva0) rfl (by kernel_rfl) (by kernel_rfl) (by kernel_rfl) (fun _ _ _ h => h) (Or.inl ⟨by rfl, ?hya0⟩) (by assumption) ?resta0
  case hya0 => (intro w0 hw0; go_simp; try with_reducible rfl)
  try simp only [Act.put, List.setIfInBounds_toArray, List.set_cons_zero, List.set_cons_succ, List.getElem_toArray, List.getElem_cons_zero]
  refine wpAnyH_take (i := 1) (v := ?vva1) rfl (by kernel_rfl) (by kernel_rfl) (by kernel_rfl) (fun _ _ _ h => h) (Or.inl ⟨by rfl, ?hya1⟩) (by assumption) ?resta1
  case hya1 => (intro w0 hw0; go_simp; try with_reducible rfl)
  try simp only [Act.put, List.setIfInBounds_toArray, List.set_cons_zero, List.set_cons_succ, List.getElem_toArray, List.getElem_cons_zero, List.getElem_cons_succ]
  refine wpAnyH_take (i := 2) (v := ?vva2) rfl (by kernel_rfl) (by kernel_rfl) (by kernel_rfl) (fun _ _ _ h => h) (Or.inl ⟨by rfl, ?hya2⟩) (by assumption) ?resta2
  case hya2 => (intro w0 hw0; go_simp; try with_reducible rfl)
  try simp only [Act.put, List.setIfInBounds_toArray, List.set_cons_zero, List.set_cons_succ, List.getElem_toArray, List.getElem_cons_zero, List.getElem_cons_succ]
  refine wpAnyH_take (i := 3) (v := ?vva3) rfl (by kernel_rfl) (by kernel_rfl) (by kernel_rfl) (fun _ _ _ h => h) (Or.inl ⟨by rfl, ?hya3⟩) (by assumption) ?resta3
  case hya3 => (intro w0 hw0; obtain ⟨x0, x1⟩ := KP.out _ hw0; go_simp; try with_reducible rfl)
  try simp only [Act.put, List.setIfInBounds_toArray, List.set_cons_zero, List.set_cons_succ, List.getElem_toArray, List.getElem_cons_zero, List.getElem_cons_succ]
  refine wpAnyH_take (i := 4) (v := ?vva4) rfl (by kernel_rfl) (by kernel_rfl) (by kernel_rfl) (fun _ _ _ h => h) (Or.inl ⟨by rfl, ?hya4⟩) (by assumption) ?resta4
  case hya4 => (intro w0 hw0; go_simp; try with_reducible rfl)
  try simp only [Act.put, List.setIfInBounds_toArray, List.set_cons_zero, List.set_cons_succ, List.getElem_toArray, List.getElem_cons_zero, List.getElem_cons_succ]
  refine wpAnyH_take (i := 5) (v := ?vva5) rfl (by kernel_rfl) (by kernel_rfl) (by kernel_rfl) (fun _ _ _ h => h) (Or.inl ⟨by rfl, ?hya5⟩) (by assumption) ?resta5
  case hya5 => (intro w0 hw0; go_simp; try with_reducible rfl)
  try simp only [Act.put, List.setIfInBounds_toArray, List.set_cons_zero, List.set_cons_succ, List.getElem_toArray, List.getElem_cons_zero, List.getElem_cons_succ]
  refine wpAnyH_take (i := 6) (v := ?vva6) rfl (by kernel_rfl) (by kernel_rfl) (by kernel_rfl) (fun _ _ _ h => h) (Or.inl ⟨by rfl, ?hya6⟩) (by assumption) ?resta6
  case hya6 => (intro w0 hw0; go_simp; try with_reducible rfl)
  try simp only [Act.put, List.setIfInBounds_toArray, List.set_cons_zero, List.set_cons_succ, List.getElem_toArray, List.getElem_cons_zero, List.getElem_cons_succ]
  refine wpAnyH_take (i := 7) (v := ?vva7) rfl (by kernel_rfl) (by kernel_rfl) (by kernel_rfl) (fun _ _ _ h => h) (Or.inl ⟨by rfl, ?hya7⟩) (by assumption) ?resta7
  case hya7 => (intro w0 hw0; obtain ⟨x0, x1⟩ := KP.out _ hw0; go_simp; try with_reducible rfl)
  try simp only [Act.put, List.setIfInBounds_toArray, List.set_cons_zero, List.set_cons_succ, List.getElem_toArray, List.getElem_cons_zero, List.getElem_cons_succ]
  refine wpAnyH_ready (rs := [8]) (by kernel_rfl) (by simp) (AllReadyH.cons rfl (fun K hK => ?_) AllReadyH.nil)
  go_simp
  refine (rGroups_n HN.out HE.out _ _ _ _ (by omega) ((HA.out.kept hHeld).wide hHeld.size)).mono ?_; rintro e w7 ⟨hb7, hr7⟩; rcases hr7 with ⟨hk7, A7, c7, rfl, hG7⟩ | ⟨hk7, rfl⟩; case inr => exact absurd (HOK.out.symm.trans hk7) (by decide); try (go_wp2_with fail)
  refine hK.out _ _ (bl hHeld hb7) (fun hHeld => ?_)
  clear hK K
  try simp only [Act.put, List.setIfInBounds_toArray, List.set_cons_zero, List.set_cons_succ, List.getElem_toArray, List.getElem_cons_zero, List.getElem_cons_succ]
  refine wpAnyH_take (i := 9) (v := ?vva9) rfl (by kernel_rfl) (by kernel_rfl) (by kernel_rfl) (fun _ _ _ h => h) (Or.inl ⟨by rfl, ?hya9⟩) (by assumption) ?resta9
  case hya9 => (intro w0 hw0; go_simp; try with_reducible rfl)
  try simp only [Act.put, List.setIfInBounds_toArray, List.set_cons_zero, List.set_cons_succ, List.getElem_toArray, List.getElem_cons_zero, List.getElem_cons_succ]
  refine wpAnyH_take (i := 10) (v := ?vva10) rfl (by kernel_rfl) (by kernel_rfl) (by kernel_rfl) (fun _ _ _ h => h) (Or.inl ⟨by rfl, ?hya10⟩) (by assumption) ?resta10
  case hya10 => (intro w0 hw0; go_simp; try with_reducible rfl)
  try simp only [Act.put, List.setIfInBounds_toArray, List.set_cons_zero, List.set_cons_succ, List.getElem_toArray, List.getElem_cons_zero, List.getElem_cons_succ]
  refine wpAnyH_take (i := 11) (v := ?vva11) rfl (by kernel_rfl) (by kernel_rfl) (by kernel_rfl) (fun _ _ _ h => h) (Or.inl ⟨by rfl, ?hya11⟩) (by assumption) ?resta11
  case hya11 => (intro w0 hw0; go_simp; try with_reducible rfl)
  try simp only [Act.put, List.setIfInBounds_toArray, List.set_cons_zero, List.set_cons_succ, List.getElem_toArray, List.getElem_cons_zero, List.getElem_cons_succ]
  refine wpAnyH_take (i := 12) (v := ?vva12) rfl (by kernel_rfl) (by kernel_rfl) (by kernel_rfl) (fun _ _ _ h => h) (Or.inl ⟨by rfl, ?hya12⟩) (by assumption) ?resta12
  case hya12 => (intro w0 hw0; go_simp; try with_reducible rfl)
  try simp only [Act.put, List.setIfInBounds_toArray, List.set_cons_zero, List.set_cons_succ, List.getElem_toArray, List.getElem_cons_zero, List.getElem_cons_succ]
  refine wpAnyH_take (i := 13) (v := ?vva13) rfl (by kernel_rfl) (by kernel_rfl) (by kernel_rfl) (fun _ _ _ h => h) (Or.inl ⟨by rfl, ?hya13⟩) (by assumption) ?resta13
  case hya13 => (intro w0 hw0; go_simp; try with_reducible rfl)
  try simp only [Act.put, List.setIfInBounds_toArray, List.set_cons_zero, List.set_cons_succ, List.getElem_toArray, List.getElem_cons_zero, List.getElem_cons_succ]
  refine wpAnyH_done (by kernel_rfl) ?_ _
  have HB7 := hid hHeld
  have HG7 := hid hG7
  clear hHeld hG7 hb7
  rw [HGC.out]
  rw [HC.out] at HG7
  go_wp2
  go_ret
  exact ⟨A7, c7, rfl, HG7.out, HB7.out⟩
end Go.Proofs.Ytfddnmibjaibhaa
