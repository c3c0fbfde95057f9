/- Sets that are nil; both sets side by side. -/
import Derived.Test.YtfddnmibjaibhaaMR
namespace Go.Proofs.Ytfddnmibjaibhaa
open Go.RowKit Go.Maps

set_option maxHeartbeats 800000 in
theorem Add_nil (x : Al) (w : World) :
    Calls Try.prog 33 #[.pointer none, x.val] w fun e w' => e = .returned (.tuple #[.int .i64 0, .int .i64 1]) ∧ Below w.heap.size w w' := by
  obtain ⟨t, c, f, u, a⟩ := x
  have HXV : Hid (Al.val ⟨t, c, f, u, a⟩ = .agg #[.int .i64 t, .int .i64 c, .int .i64 f, .int .i64 u, .int .i64 a]) := rfl
  rw [HXV.out]
  go_enter Try.func33, Try.ntmps33
  go_wp2
  go_ret2
  exact ⟨rfl, ba (Below.refl _ _) _⟩
set_option maxHeartbeats 800000 in
theorem rAdd_nil (x : Al) (w : World) :
    Calls Try.prog 39 #[.pointer none, x.val] w fun e w' => e = .returned (.tuple #[.int .i64 0, .int .i64 1]) ∧ Below w.heap.size w w' := by
  obtain ⟨t, c, f, u, a⟩ := x
  have HXV : Hid (Al.val ⟨t, c, f, u, a⟩ = .agg #[.int .i64 t, .int .i64 c, .int .i64 f, .int .i64 u, .int .i64 a]) := rfl
  rw [HXV.out]
  go_enter Try.func39, Try.ntmps39
  go_wp2
  go_ret2
  exact ⟨rfl, ba (Below.refl _ _) _⟩
theorem SGroups_nil (w : World) : Calls Try.prog 34 #[.pointer none] w fun e w' => e = .returned (.slice none 0 0) ∧ w = w' := by
  go_enter Try.func34, Try.ntmps34
  go_wp2
  go_ret
  exact ⟨rfl, rfl⟩
theorem rSGroups_nil (w : World) : Calls Try.prog 40 #[.pointer none] w fun e w' => e = .returned (.slice none 0 0) ∧ w = w' := by
  go_enter Try.func40, Try.ntmps40
  go_wp2
  go_ret
  exact ⟨rfl, rfl⟩

/-- both sets in memory, apart from each other -/
structure Two (w : World) (p q : Nat) (win : Int) (l : List Al) (v v2 : Value) : Prop where
  s : SetAt w p win l v
  t : RSetAt w q win l v2
  pq : p < q
  vq : v.ownBlock ≠ some q
  vv : ∀ g, v.ownBlock = some g → v2.ownBlock ≠ some g
theorem Two.call {w w' : World} {p q : Nat} {win : Int} {l : List Al} {v v2 : Value} (h : Two w p q win l v v2) (hb : Below w.heap.size w w') : Two w' p q win l v v2 :=
  ⟨h.s.kept (K := fun _ => False) ((Fr.refl _ w).call hb) (fun _ _ => id), h.t.kept (K := fun _ => False) ((Fr.refl _ w).call hb) (fun _ _ => id), h.pq, h.vq, h.vv⟩
theorem Two.rkept {w w' : World} {p q : Nat} {win : Int} {l : List Al} {v v2 : Value} (h : Two w p q win l v v2) (hf : Fr (SetK p v) w w') : RSetAt w' q win l v2 :=
  h.t.kept hf (fun k hk hk2 => by
    have := h.pq
    rcases hk with rfl | hk <;> rcases hk2 with e | e
    · omega
    · exact h.vq e
    · have := (h.t.own.lt k hk).1; omega
    · exact h.vv k e hk)
/-- behind s.Add and t.Add -/
theorem Two.add {w w1 w2 : World} {p q : Nat} {win : Int} {l : List Al} {x : Al} {v v2 v' v2' : Value} (h : Two w p q win l v v2)
    (h1 : SetAt w1 p win (l ++ [x]) v') (f1 : Fr (SetK p v) w w1) (o1 : ∀ g, v'.ownBlock = some g → v.ownBlock = some g ∨ w.heap.size ≤ g)
    (h2 : RSetAt w2 q win (l ++ [x]) v2') (f2 : Fr (RSetK q v2) w1 w2) (o2 : ∀ g, v2'.ownBlock = some g → v2.ownBlock = some g ∨ w1.heap.size ≤ g) : Two w2 p q win (l ++ [x]) v' v2' := by
  have hpq := h.pq
  have hq := h.t.lt
  have hv'q : v'.ownBlock ≠ some q := fun e => by
    rcases o1 q e with e1 | e1
    · exact h.vq e1
    · omega
  have hsep : ∀ g, v'.ownBlock = some g → v2.ownBlock ≠ some g := fun g e e2 => by
    rcases o1 g e with e1 | e1
    · exact h.vv g e1 e2
    · have := (h.t.own.lt g e2).2; omega
  refine ⟨h1.kept f2 (fun k hk hk2 => ?_), h2, hpq, hv'q, fun g e e2 => ?_⟩
  · rcases hk with rfl | hk <;> rcases hk2 with e | e
    · omega
    · have := (h.t.own.lt k e).1; omega
    · rw [e] at hk; exact hv'q hk
    · exact hsep k hk e
  · rcases o2 g e2 with e1 | e1
    · exact hsep g e e1
    · have := (h1.own.lt g e).2; omega
/-- the alerts of l that are valid -/
def vls (l : List Al) : List Al := l.filter isV
theorem vls_le (l : List Al) : (vls l).length ≤ l.length := List.length_filter_le _ _
theorem vls_yes {l : List Al} {x : Al} (h : isV x = true) : vls (l ++ [x]) = vls l ++ [x] := by unfold vls; rw [List.filter_append]; simp [h]
theorem vls_no {l : List Al} {x : Al} (h : isV x = false) : vls (l ++ [x]) = vls l := by unfold vls; rw [List.filter_append]; simp [h]
/-- (*Set).Add of a valid alert, its result named, and where its alerts lie -/
theorem Add_at2 {p n r : Nat} {win : Int} {l : List Al} {v : Value} {x : Al} (hn : l.length = n) (hr : (mem (n + 1) (col win (l ++ [x])) (col win (l ++ [x]) n)).length = r) (w : World) (h : SetAt w p win l v) (hx : isV x = true) (hl : n < 200) :
    Calls Try.prog 33 #[.pointer (some ⟨p, 0, none⟩), x.val] w fun e w' => e = .returned (.tuple #[.int .i64 (r : Nat), .int .i64 0]) ∧
      ∃ v', SetAt w' p win (l ++ [x]) v' ∧ Fr (SetK p v) w w' ∧ ∀ g, v'.ownBlock = some g → v.ownBlock = some g ∨ w.heap.size ≤ g := by
  subst hn hr
  exact Add_ok p win l v x w h hx hl
end Go.Proofs.Ytfddnmibjaibhaa
