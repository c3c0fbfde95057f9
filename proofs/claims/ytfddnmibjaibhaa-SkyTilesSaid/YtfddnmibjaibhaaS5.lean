/- Small words for the walks of the laws: a block of cells known whole; contracts whose results bear names. -/
import Derived.Test.YtfddnmibjaibhaaS4
import Derived.Deep.DeepCutAuto
namespace Go.Proofs.Ytfddnmibjaibhaa
open Go.RowKit

/-- Block g is just the cells cs, of element type t, none of them frozen. -/
def Box (w : World) (g : Nat) (t : TypeId) (cs : Array Value) : Prop := w.heap[g]? = some (.cells cs t (0, 0))
section
variable {w w' : World} {g : Nat} {t : TypeId} {cs : Array Value}
theorem Box.lt (h : Box w g t cs) : g < w.heap.size := (Array.getElem?_eq_some_iff.1 h).1
theorem Box.cell (h : Box w g t cs) (i : Nat) : w.cell? ⟨g, i, none⟩ = cs[i]? := cell_of_row w g i cs t (0, 0) h
theorem Box.free (h : Box w g t cs) (i : Nat) : w.frozen? ⟨g, i, none⟩ = false := by
  unfold Box at h
  simp [World.frozen?, h]
theorem Box.new (w : World) (t : TypeId) (cs : Array Value) : Box (w.alloc (.cells cs t)) w.heap.size t cs := heap_alloc_new w _
theorem Box.new' {n : Nat} (w : World) (t : TypeId) (cs : Array Value) (h : n = w.heap.size) : Box (w.alloc (.cells cs t)) n t cs := by subst h; exact heap_alloc_new w _
theorem Box.alloc (h : Box w g t cs) (o : Obj) : Box (w.alloc o) g t cs := (Below.heap_alloc w o g h.lt).trans h
theorem Box.drewN (h : Box w g t cs) (n : Nat) : Box (w.drewN n) g t cs := h
theorem Box.call (h : Box w g t cs) (hb : Below w.heap.size w w') : Box w' g t cs := (hb.block g h.lt).trans h
theorem Box.put (h : Box w g t cs) (i : Nat) (u : Value) : Box (w.setCell ⟨g, i, none⟩ u) g t (cs.setIfInBounds i u) := by
  unfold Box at h ⊢
  simp [World.setCell, Array.getElem?_modify, h]
theorem Box.far (h : Box w g t cs) {p : Addr} (hp : g ≠ p.block) (u : Value) : Box (w.setCell p u) g t cs := (Below.heap_setCell w p u g hp).trans h
theorem Box.two {x y : Value} (h : Box w g t #[x, y]) : w.cell? ⟨g, 0, none⟩ = some x ∧ w.cell? ⟨g, 1, none⟩ = some y ∧ w.frozen? ⟨g, 0, none⟩ = false ∧ w.frozen? ⟨g, 1, none⟩ = false :=
  ⟨h.cell 0, h.cell 1, h.free 0, h.free 1⟩
end

theorem place_is {x y p q : Int} (hp : x % 5760 = p) (hq : y % 2880 = q) (w : World) (h0 : 0 ≤ x) (h1 : x < 65536) (h2 : 0 ≤ y) (h3 : y < 65536) :
    Calls Try.prog 26 #[.int .u16 x, .int .u16 y] w fun e w' => e = .returned (.agg #[.int .i64 p, .int .i64 q]) ∧ Below w.heap.size w w' := by
  subst hp hq; exact place_any x y w h0 h1 h2 h3
theorem tile_is {x y a : Int} (ha : 32 * (y / 180) + x / 180 = a) (w : World) (h : posB x y = true) :
    Calls Try.prog 15 #[.agg #[.int .i64 x, .int .i64 y]] w fun e w' => e = .returned (.tuple #[.int .i64 a, .int .i64 0]) ∧ Below w.heap.size w w' := by
  subst ha; exact tile_ok x y w h
theorem cell_is {x y a : Int} (ha : 2 * (y % 180 * 2 / 180) + x % 180 * 2 / 180 = a) (w : World) (h : posB x y = true) :
    Calls Try.prog 17 #[.agg #[.int .i64 x, .int .i64 y]] w fun e w' => e = .returned (.tuple #[.int .i64 a, .int .i64 0]) ∧ Below w.heap.size w w' := by
  subst ha; exact cell_ok x y w h
theorem Centre_is {a x y : Int} (hx : 180 * (a % 32) + 90 = x) (hy : 180 * (a / 32) + 90 = y) (w : World) (h0 : 0 ≤ a) (h1 : a < 512) :
    Calls Try.prog 19 #[.int .i64 a] w fun e w' => e = .returned (.tuple #[.agg #[.int .i64 x, .int .i64 y], .int .i64 0]) ∧ Below w.heap.size w w' := by
  subst hx hy; exact Centre_ok a w h0 h1
end Go.Proofs.Ytfddnmibjaibhaa
