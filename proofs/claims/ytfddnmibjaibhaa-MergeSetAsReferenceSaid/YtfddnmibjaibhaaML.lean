/- Helpers for regions that read alerts and ask whether they are close. -/
import Derived.Test.YtfddnmibjaibhaaMK
import Derived.Deep.RegionHeld3
namespace Go.Proofs.Ytfddnmibjaibhaa
open Go.RowKit

theorem bdr {k : Nat} {a b : World} (h : Below k a b) : Below k a b.drew := ⟨h.os, h.tape, h.output, h.size, h.block⟩
theorem close_at {x y : Al} {win : Int} {b : Bool} (hcl : cl win x y = b) (hx : isV x = true) (hy : isV y = true) {k : Nat} {wb w : World} (hk : k ≤ wb.heap.size) (hb : Below k wb w) :
    Calls Try.prog 35 #[x.val, y.val, .int .i64 win] w fun e w' => e = .returned (.bool b) ∧ Below k wb w' := by
  subst hcl
  refine (close_any x y win w hx hy).mono ?_
  rintro e w' ⟨rfl, h⟩
  exact ⟨rfl, hb.trans (h.mono (Nat.le_trans hk hb.size))⟩
theorem Close_at {x y : Al} {win : Int} {b : Bool} (hcl : cl win x y = b) (hx : isV x = true) (hy : isV y = true) {k : Nat} {wb w : World} (hk : k ≤ wb.heap.size) (hb : Below k wb w) :
    Calls Try.prog 59 #[x.val, y.val, .int .i64 win] w fun e w' => e = .returned (.bool b) ∧ Below k wb w' := by
  subst hcl
  refine (Close_any x y win w hx hy).mono ?_
  rintro e w' ⟨rfl, h⟩
  exact ⟨rfl, hb.trans (h.mono (Nat.le_trans hk hb.size))⟩
/-- the cells of an alert that lies at offset o of block b -/
def AlAt (w : World) (b o : Nat) (x : Al) : Prop := w.cell? ⟨b, o, none⟩ = some (.int .i64 x.t) ∧ w.cell? ⟨b, o + 1, none⟩ = some (.int .i64 x.c) ∧ w.cell? ⟨b, o + 2, none⟩ = some (.int .i64 x.f) ∧ w.cell? ⟨b, o + 3, none⟩ = some (.int .i64 x.v) ∧ w.cell? ⟨b, o + 4, none⟩ = some (.int .i64 x.a)
theorem alAt_of {w : World} {b o : Nat} {x : Al} (h : ∀ i, i < 5 → w.cell? ⟨b, o + i, none⟩ = (acell x)[i]?) : AlAt w b o x :=
  ⟨h 0 (by omega), h 1 (by omega), h 2 (by omega), h 3 (by omega), h 4 (by omega)⟩
theorem rowA_cells {w : World} {hi : Nat} {A : Option Addr} {l : List Al} (h : RowA w hi A l) (hl : 0 < l.length) : ∃ b o, A = some ⟨b, o, none⟩ ∧ b < hi ∧ ∀ j x, l[j]? = some x → ∀ w' : World, Below hi w w' → AlAt w' b (o + j * 5) x := by
  rcases h with h | ⟨b, o, h1, h2, h3⟩
  · rw [h] at hl; simp at hl
  · exact ⟨b, o, h1, h2, fun j x hj w' hb => alAt_of fun i hi => (hb.cell (p := ⟨b, o + j * 5 + i, none⟩) (by simpa using h2)).trans (h3 j x hj i hi)⟩
theorem Try.info4 : (Try.prog.info? 4).map (fun i => (i.zero, i.size, i.bytes)) = some (some (.bool false), 1, 1) := by kernel_rfl

/-! what is reached, in memory: the slice v of the reached, and block H + 1 that tells who is in -/
structure BS (H : Nat) (w0 w : World) (n : Nat) (v : Value) (R : List Nat) : Prop where
  inn : w.rowIs (H + 1) 4 n (fun j => .bool (decide (j ∈ R)))
  own : w.ownsRow H 3 1 v R.length (nv R)
  apart : ∀ x, v.ownBlock = some x → x ≠ H + 1
  below : Below H w0 w
theorem BS.call {H : Nat} {w0 w w' : World} {n : Nat} {v : Value} {R : List Nat} (h : BS H w0 w n v R) (hb : Below w.heap.size w w') : BS H w0 w' n v R := by
  have hl := World.rowIs.lt h.inn
  have hf := (Fr.refl (fun _ => False) w).call hb
  exact ⟨World.rowIs.of_block h.inn (hb.block _ hl), hf.own h.own (fun _ _ => id), h.apart, h.below.trans (hb.mono (by omega))⟩
theorem BS.start (w : World) (n f : Nat) (hf : f < n) : BS w.heap.size w ((w.alloc (.cells #[.int .i64 (f : Nat)] 3)).alloc (.cells ((madeCells #[.bool false] n).setIfInBounds f (.bool true)) 4)) n (.slice (some ⟨w.heap.size, 0, none⟩) 1 1) [f] := by
  have h1 := World.rowIs_alloc (w.alloc (.cells #[.int .i64 (f : Nat)] 3)) ((madeCells #[.bool false] n).setIfInBounds f (.bool true)) 4 (fun j => .bool (decide (j ∈ [f]))) (by
    intro j hj
    rw [Array.size_setIfInBounds, size_madeCells] at hj
    rw [Array.getElem?_setIfInBounds]
    by_cases e : f = j
    · subst e; rw [if_pos rfl, if_pos (by rw [size_madeCells]; exact hf)]; simp
    · rw [if_neg e]; simp [madeCells, hj, Nat.mod_one]; exact fun h => e h.symm)
  rw [show (w.alloc (.cells #[.int .i64 (f : Nat)] 3)).heap.size = w.heap.size + 1 from by simp, Array.size_setIfInBounds, size_madeCells] at h1
  refine ⟨h1, ?_, ?_, ?_⟩
  · have := World.ownsRow_lit (base := w.heap.size) (e := 3) (size := 1) w #[.int .i64 (f : Nat)] 1 (Nat.le_refl _) (by unfold maxLen; omega) rfl
    exact this.alloc _
  · intro x hx
    simp only [Value.ownBlock, Option.some.injEq] at hx
    omega
  · exact ba (ba (Below.refl _ _) _) _
theorem BS.add {H : Nat} {w0 w w' : World} {n : Nat} {v v' : Value} {R : List Nat} {y : Nat} {o : Obj} (h : BS H w0 w n v R)
    (hown : w'.ownsRow H 3 1 v' (R.length + 1) (nv R ++ [.int .i64 (y : Nat)])) (hg : ((w.setCell ⟨H + 1, y, none⟩ (.bool true)).alloc o).grownBy w' v.ownBlock)
    (hloc : v'.ownBlock = v.ownBlock ∨ v'.ownBlock = some (w.heap.size + 1)) : BS H w0 w' n v' (R ++ [y]) := by
  have hl := World.rowIs.lt h.inn
  have hF : Fr (fun x => v.ownBlock = some x) (w.setCell ⟨H + 1, y, none⟩ (.bool true)) w' := ((Fr.refl (fun x => v.ownBlock = some x) _).alloc o).grown hg (fun x hx => .inl hx)
  refine ⟨(World.rowIs.of_block (World.rowIs.set h.inn y (.bool true)) (hF.block _ (by simpa using hl) (fun e => h.apart _ e rfl))).congr fun j _ => ?_, ?_, ?_, ?_⟩
  · by_cases e : j = y
    · simp [e]
    · simp [e]
  · rw [List.length_append]; simpa [nv] using hown
  · intro x hx
    rcases hloc with e | e
    · exact h.apart x (by rw [← e]; exact hx)
    · rw [e] at hx; cases hx; omega
  · have h2 : Fr (fun x => H ≤ x) w w' := ((Fr.refl (fun x => H ≤ x) w).setCell (H + 1) y _ (.inl (by omega))).trans hF (fun k hk => .inl (h.own.lt k hk).1)
    have h3 := h.below.size
    by_cases hH : H ≤ w0.heap.size
    · exact Fr.below h.below h2 hH (fun k hk => hk)
    · exact ⟨h2.os.trans h.below.os, h2.tape.trans h.below.tape, h2.output.trans h.below.output, Nat.le_trans h3 h2.size, fun k hk => (h2.block k (by omega) (by omega)).trans (h.below.block k hk)⟩
theorem BS.push {H : Nat} {w0 w : World} {n : Nat} {v : Value} {R : List Nat} (h : BS H w0 w n v R) (y : Nat) : (w.setCell ⟨H + 1, y, none⟩ (.bool true)).ownsRow H 3 1 v R.length (nv R) :=
  ((Fr.refl (fun x => x = H + 1) w).setCell (H + 1) y _ (.inl rfl)).own h.own (fun g hg e => h.apart g hg e)
theorem BS.reach {H : Nat} {w0 w : World} {n : Nat} {v : Value} {R : List Nat} (h : BS H w0 w n v R) (hR : 0 < R.length) : ∃ b c, v = .slice (some ⟨b, 0, none⟩) R.length c ∧ b < w.heap.size ∧ ∀ (m x : Nat), R[m]? = some x → w.cell? ⟨b, m, none⟩ = some (.int .i64 (x : Nat)) := by
  obtain ⟨A, c, rfl, hA⟩ := own_slice h.own
  obtain ⟨b, rfl⟩ := hA hR
  refine ⟨b, c, rfl, (h.own.lt b rfl).2, fun m x hx => ?_⟩
  rw [h.own.cellAt _ (by have := (List.getElem?_eq_some_iff.1 hx).1; omega)]
  simp [nv, hx]
theorem cell_new_set (w : World) (a : Addr) (v u : Value) (t : TypeId) : ((w.setCell a v).alloc (.cells #[u] t)).cell? ⟨w.heap.size, 0, none⟩ = some u := by
  have h := Bx.new (w.setCell a v) t #[u]
  rw [show (w.setCell a v).heap.size = w.heap.size from by simp] at h
  exact (h.cell 0).trans rfl
end Go.Proofs.Ytfddnmibjaibhaa
