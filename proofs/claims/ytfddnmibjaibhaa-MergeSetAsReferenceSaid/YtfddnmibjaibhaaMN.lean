/- Helpers for the law of one alert more. -/
import Derived.Test.YtfddnmibjaibhaaML
namespace Go.Proofs.Ytfddnmibjaibhaa
open Go.RowKit

theorem of_at {n G : Nat} {m : Int} {c : Nat → Nat} (hm : m = (n : Nat)) (hG : (gl n c).length = G) {A : Option Addr} {lo hi : Nat} (cp : Nat) (w : World) (hR : RowG w lo hi A (gl n c)) (hhi : hi ≤ w.heap.size) (hn : n ≤ 200) :
    Calls Try.prog 31 #[.slice A G cp, .int .i64 m] w fun e w' => e = .returned (.tuple #[.slice (some ⟨w.heap.size, 0, none⟩) n n, .bool true]) ∧ w'.rowIs w.heap.size 3 n (fun j => .int .i64 ((idx n c j + 1 : Nat))) ∧ Below w.heap.size w w' := by
  subst hm; exact of_is hG cp w hR hhi hn
/-- the groups of a set, its number of groups named -/
theorem SGroups_at {p n G : Nat} {win : Int} {l : List Al} {v : Value} {c : Nat → Nat} (hn : l.length = n) (hc : col win l = c) (hG : (gl n c).length = G) (w : World) (h : SetAt w p win l v) :
    Calls Try.prog 34 #[.pointer (some ⟨p, 0, none⟩)] w fun e w' => ∃ A cp, e = .returned (.slice A G cp) ∧ RowG w' 0 w'.heap.size A (gl n c) ∧ SetAt w' p win l v ∧ Fr (fun b => b = p) w w' := by
  subst hn hc hG
  refine (SGroups_any p win l v w h).mono ?_
  rintro e w' ⟨out, rfl, ho, hs, hf⟩
  obtain ⟨A, cp, rfl, hr⟩ := ho.read
  exact ⟨A, cp, rfl, hr.wide (Nat.zero_le _) (Nat.le_refl _), hs, hf⟩
/-- (*Set).Add of a valid alert, its result named -/
theorem Add_at {p n r : Nat} {win : Int} {l : List Al} {v : Value} {x : Al} (hn : l.length = n) (hr : (mem (n + 1) (col win (l ++ [x])) (col win (l ++ [x]) n)).length = r) (w : World) (h : SetAt w p win l v) (hx : isV x = true) (hl : n < 200) :
    Calls Try.prog 33 #[.pointer (some ⟨p, 0, none⟩), x.val] w fun e w' => e = .returned (.tuple #[.int .i64 (r : Nat), .int .i64 0]) ∧
      ∃ v', SetAt w' p win (l ++ [x]) v' ∧ Fr (SetK p v) w w' := by
  subst hn hr
  refine (Add_ok p win l v x w h hx hl).mono ?_
  rintro e w' ⟨rfl, v', h1, h2, _⟩
  exact ⟨rfl, v', h1, h2⟩
/-- what lies below the set stays -/
theorem SetAt.below {w0 w w' : World} {p : Nat} {win : Int} {l : List Al} {v : Value} (h : SetAt w p win l v) (hb : Below p w0 w) (hp : p ≤ w0.heap.size) (hf : Fr (SetK p v) w w') : Below p w0 w' :=
  Fr.below hb hf hp (fun x hx => by
    rcases hx with h1 | h1
    · omega
    · have := (h.own.lt x h1).1; omega)
theorem blp {k : Nat} {a b c : World} (h : Below k a b) (hk : a.heap.size = k) (hb : Below b.heap.size b c) : Below k a c := h.trans (hb.mono (Nat.le_trans (Nat.le_of_eq hk.symm) h.size))
theorem bdn {k : Nat} {a b : World} (h : Below k a b) (m : Nat) : Below k a (b.drewN m) := ⟨h.os, h.tape, h.output, h.size, h.block⟩
/-- is the group of i touched by one of the first k? -/
def tp (E : Nat → Nat → Bool) (n : Nat) (c : Nat → Nat) (i k : Nat) : Bool := (List.range k).any fun k => c i == c k && E k n
theorem tp_zero (E : Nat → Nat → Bool) (n : Nat) (c : Nat → Nat) (i : Nat) : tp E n c i 0 = false := rfl
theorem tp_succ (E : Nat → Nat → Bool) (n : Nat) (c : Nat → Nat) (i k : Nat) : tp E n c i (k + 1) = (tp E n c i k || (c i == c k && E k n)) := by unfold tp; rw [List.range_succ, List.any_append]; simp
theorem tp_full (E : Nat → Nat → Bool) (n : Nat) (c : Nat → Nat) (i : Nat) : tp E n c i n = tchd E n c i := rfl
/-- how many of the first i are touched -/
def cntT (E : Nat → Nat → Bool) (n : Nat) (c : Nat → Nat) (i : Nat) : Nat := ((List.range i).filter (tchd E n c)).length
theorem cntT_succ (E : Nat → Nat → Bool) (n : Nat) (c : Nat → Nat) (i : Nat) : cntT E n c (i + 1) = cntT E n c i + if tchd E n c i = true then 1 else 0 := by
  unfold cntT; rw [List.range_succ, List.filter_append, List.length_append]
  by_cases h : tchd E n c i = true <;> simp [h]
theorem cntT_le (E : Nat → Nat → Bool) (n : Nat) (c : Nat → Nat) (i : Nat) : cntT E n c i ≤ i := by
  have := List.length_filter_le (tchd E n c) (List.range i); simpa [cntT] using this
theorem edge_last (win : Int) (l : List Al) (x : Al) {k : Nat} (hk : k < l.length) : edge win (l ++ [x]) k l.length = cl win l[k] x := by
  rw [edge_symm, edge_new x hk, cl_symm]
theorem col_more (win : Int) (l : List Al) (x : Al) :
    (∀ i j, i < l.length → j < l.length → (col win (l ++ [x]) i = col win (l ++ [x]) j ↔ col win l i = col win l j ∨ (tchd (edge win (l ++ [x])) l.length (col win l) i = true ∧ tchd (edge win (l ++ [x])) l.length (col win l) j = true))) ∧
      (∀ i, i < l.length → (col win (l ++ [x]) i = col win (l ++ [x]) l.length ↔ tchd (edge win (l ++ [x])) l.length (col win l) i = true)) := by
  have h1 := col_least win (l ++ [x])
  rw [List.length_append] at h1
  refine Least.more (edge_symm win (l ++ [x])) ((col_least win l).edges fun i j hi hj => ?_) h1
  rw [edge_append x hi hj]
end Go.Proofs.Ytfddnmibjaibhaa
