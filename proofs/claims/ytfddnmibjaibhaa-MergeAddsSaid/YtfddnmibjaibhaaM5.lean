/- The set as a whole in memory, and what a call may turn. -/
import Derived.Test.YtfddnmibjaibhaaM4
import Derived.Deep.RegionHeldLaw
import Derived.Deep.AppendLies
import Derived.Laws.EntriesVeiled
namespace Go.Proofs.Ytfddnmibjaibhaa
open Go.RowKit

/-- w' is w but for the blocks of K and new ones -/
structure Fr (K : Nat → Prop) (w w' : World) : Prop where
  os : w'.os = w.os
  tape : w'.tape = w.tape
  output : w'.output = w.output
  size : w.heap.size ≤ w'.heap.size
  block : ∀ k, k < w.heap.size → ¬ K k → w'.heap[k]? = w.heap[k]?

theorem Fr.refl (K : Nat → Prop) (w : World) : Fr K w w := ⟨rfl, rfl, rfl, Nat.le_refl _, fun _ _ _ => rfl⟩
theorem Fr.trans {K K' : Nat → Prop} {a b c : World} (h : Fr K a b) (h' : Fr K' b c) (hK : ∀ k, K' k → K k ∨ a.heap.size ≤ k) : Fr K a c :=
  ⟨h'.os.trans h.os, h'.tape.trans h.tape, h'.output.trans h.output, Nat.le_trans h.size h'.size, fun k hk hn => (h'.block k (Nat.lt_of_lt_of_le hk h.size) (fun hh => by
    rcases hK k hh with e | e
    · exact hn e
    · omega)).trans (h.block k hk hn)⟩
theorem Fr.mono {K K' : Nat → Prop} {a b : World} (h : Fr K a b) (hK : ∀ k, K k → K' k ∨ a.heap.size ≤ k) : Fr K' a b := (Fr.refl K' a).trans h hK
theorem Fr.call {K : Nat → Prop} {a b c : World} (h : Fr K a b) (hb : Below b.heap.size b c) : Fr K a c :=
  h.trans (K' := fun _ => False) ⟨hb.os, hb.tape, hb.output, hb.size, fun k hk _ => hb.block k hk⟩ (fun _ hk => hk.elim)
theorem Fr.alloc {K : Nat → Prop} {a b : World} (h : Fr K a b) (o : Obj) : Fr K a (b.alloc o) := h.call ((Below.refl _ b).alloc (Nat.le_refl _) o)
theorem Fr.drew {K : Nat → Prop} {a b : World} (h : Fr K a b) : Fr K a b.drew := ⟨h.os, h.tape, h.output, h.size, h.block⟩
theorem Fr.drewN {K : Nat → Prop} {a b : World} (h : Fr K a b) (m : Nat) : Fr K a (b.drewN m) := ⟨h.os, h.tape, h.output, h.size, h.block⟩
theorem Fr.grown {K : Nat → Prop} {a b c : World} {r : Option Nat} (h : Fr K a b) (hg : b.grownBy c r) (hr : ∀ k, r = some k → K k ∨ a.heap.size ≤ k) : Fr K a c :=
  h.trans (K' := fun k => r = some k) ⟨hg.os, hg.tape, hg.output, hg.size, fun k hk hn => hg.block k hk (fun e => hn e.symm)⟩ hr
theorem Fr.setCell {K : Nat → Prop} {a b : World} (h : Fr K a b) (p i : Nat) (v : Value) (hp : K p ∨ a.heap.size ≤ p) : Fr K a (b.setCell ⟨p, i, none⟩ v) :=
  h.grown (gbSet b p i v) (fun k hk => by cases hk; exact hp)
theorem Fr.below {K : Nat → Prop} {n : Nat} {a b c : World} (h : Below n a b) (h' : Fr K b c) (hn : n ≤ a.heap.size) (hK : ∀ k, K k → n ≤ k) : Below n a c :=
  ⟨h'.os.trans h.os, h'.tape.trans h.tape, h'.output.trans h.output, Nat.le_trans h.size h'.size, fun k hk => (h'.block k (Nat.lt_of_lt_of_le (Nat.lt_of_lt_of_le hk hn) h.size) (fun hh => by have := hK k hh; omega)).trans (h.block k hk)⟩
theorem Fr.cell {K : Nat → Prop} {a b : World} (h : Fr K a b) {q : Addr} (hq : q.block < a.heap.size) (hn : ¬ K q.block) : b.cell? q = a.cell? q := World.cell?_of_block (w := a) (h.block _ hq hn)
theorem Fr.frozen {K : Nat → Prop} {a b : World} (h : Fr K a b) {q : Addr} (hq : q.block < a.heap.size) (hn : ¬ K q.block) : b.frozen? q = a.frozen? q := World.frozen?_of_block (w := a) (h.block _ hq hn)

/-! alerts in memory -/
def acell (x : Al) : List Value := [.int .i64 x.t, .int .i64 x.c, .int .i64 x.f, .int .i64 x.v, .int .i64 x.a]
def alCells (l : List Al) : List Value := l.flatMap acell
theorem alCells_length (l : List Al) : (alCells l).length = l.length * 5 := by
  induction l with
  | nil => rfl
  | cons x l ih => simp only [alCells, List.flatMap_cons, List.length_append, List.length_cons] at ih ⊢; simp only [acell, List.length_cons, List.length_nil]; omega
theorem alCells_append (l m : List Al) : alCells (l ++ m) = alCells l ++ alCells m := by simp [alCells]
theorem alCells_at (l : List Al) (j : Nat) (h : j < l.length) (i : Nat) (hi : i < 5) : (alCells l)[j * 5 + i]? = (acell l[j])[i]? := by
  induction l generalizing j with
  | nil => simp at h
  | cons x l ih =>
    have e : alCells (x :: l) = acell x ++ alCells l := by simp [alCells]
    have hx : (acell x).length = 5 := rfl
    cases j with
    | zero => rw [e, List.getElem?_append_left (by omega)]; simp
    | succ j =>
      have := ih j (by simpa using h)
      rw [e, List.getElem?_append_right (by omega), hx, show (j + 1) * 5 + i - 5 = j * 5 + i from by omega]
      simpa using this

/-- are alerts i and j of the list close? -/
def edge (win : Int) (l : List Al) (i j : Nat) : Bool :=
  match l[i]?, l[j]? with
  | some x, some y => cl win x y
  | _, _ => false
theorem edge_symm (win : Int) (l : List Al) (i j : Nat) : edge win l i j = edge win l j i := by
  unfold edge
  cases l[i]? <;> cases l[j]? <;> simp [cl_symm]
theorem edge_is {win : Int} {l : List Al} {i j : Nat} (hi : i < l.length) (hj : j < l.length) : edge win l i j = cl win l[i] l[j] := by
  unfold edge; rw [List.getElem?_eq_getElem hi, List.getElem?_eq_getElem hj]
theorem edge_append {win : Int} {l : List Al} (x : Al) {i j : Nat} (hi : i < l.length) (hj : j < l.length) : edge win (l ++ [x]) i j = edge win l i j := by
  unfold edge; rw [List.getElem?_append_left hi, List.getElem?_append_left hj]
theorem edge_new {win : Int} {l : List Al} (x : Al) {j : Nat} (hj : j < l.length) : edge win (l ++ [x]) l.length j = cl win x l[j] := by
  unfold edge; rw [List.getElem?_append_right (Nat.le_refl _), List.getElem?_append_left hj, Nat.sub_self, List.getElem?_eq_getElem hj]; rfl

/-- the colouring of a list of alerts -/
def col (win : Int) (l : List Al) : Nat → Nat := lst (edge win l) l.length
theorem col_least (win : Int) (l : List Al) : Least l.length (fun x y => edge win l x y = true) (col win l) := lst_least _ (edge_symm win l) _

/-- a set's groups in memory: of n alerts, by the colouring c -/
def Uf (w : World) (p : Nat) (win : Int) (v : Value) (n : Nat) (R : Nat → Nat → Prop) : Prop := ∃ P S c d, UF n P S c d ∧ SetB w p win v P S ∧ Least n R c
/-- a set in memory: block p, its alerts in the slice v -/
structure SetAt (w : World) (p : Nat) (win : Int) (l : List Al) (v : Value) : Prop where
  uf : Uf w p win v l.length (fun x y => edge win l x y = true)
  ok : ∀ x ∈ l, isV x = true
  own : w.ownsRow (p + 1) 52 5 v l.length (alCells l)
  le : l.length ≤ 200

theorem Uf.lt {w : World} {p : Nat} {win : Int} {v : Value} {n : Nat} {R : Nat → Nat → Prop} (h : Uf w p win v n R) : p < w.heap.size := by
  obtain ⟨_, _, _, _, _, h, _⟩ := h; exact World.rowIs.lt h
theorem Uf.kept {w w' : World} {p : Nat} {win : Int} {v : Value} {n : Nat} {R : Nat → Nat → Prop} {K : Nat → Prop} (h : Uf w p win v n R) (hf : Fr K w w') (hp : ¬ K p) : Uf w' p win v n R := by
  have hl := h.lt
  obtain ⟨P, S, c, d, h1, h2, h3⟩ := h
  exact ⟨P, S, c, d, h1, World.rowIs.of_block h2 (hf.block p hl hp), h3⟩
theorem Fr.own {w w' : World} {base e size : Nat} {v : Value} {n : Nat} {xs : List Value} {K : Nat → Prop} (hf : Fr K w w') (h : w.ownsRow base e size v n xs) (hv : ∀ g, v.ownBlock = some g → ¬ K g) : w'.ownsRow base e size v n xs := by
  refine ⟨h.1, ?_⟩
  rcases h.2 with h0 | ⟨g, cap, cur, rfl, h1, h2, h3⟩
  · exact .inl h0
  · exact .inr ⟨g, cap, cur, rfl, h1, by rw [hf.block g (Array.getElem?_eq_some_iff.1 h2).1 (hv g rfl)]; exact h2, h3⟩
/-- the blocks of a set -/
def SetK (p : Nat) (v : Value) (k : Nat) : Prop := k = p ∨ v.ownBlock = some k
theorem SetAt.kept {w w' : World} {p : Nat} {win : Int} {l : List Al} {v : Value} {K : Nat → Prop} (h : SetAt w p win l v) (hf : Fr K w w') (hK : ∀ k, SetK p v k → ¬ K k) : SetAt w' p win l v :=
  ⟨h.uf.kept hf (hK p (.inl rfl)), h.ok, hf.own h.own (fun g hg => hK g (.inr hg)), h.le⟩
end Go.Proofs.Ytfddnmibjaibhaa
