/- Lists, groups and alerts in memory that are read. -/
import Derived.Test.YtfddnmibjaibhaaM9
namespace Go.Proofs.Ytfddnmibjaibhaa
open Go.RowKit

/-- a slice that reads as a list of naturals; its cells lie in a block from lo up to hi -/
def RowN (w : World) (lo hi : Nat) (A : Option Addr) (l : List Nat) : Prop :=
  l = [] ∨ ∃ b, A = some ⟨b, 0, none⟩ ∧ lo ≤ b ∧ b < hi ∧ ∀ j x, l[j]? = some x → w.cell? ⟨b, j, none⟩ = some (.int .i64 (x : Nat))
theorem RowN.kept {w w' : World} {lo hi : Nat} {A : Option Addr} {l : List Nat} {K : Nat → Prop} (h : RowN w lo hi A l) (hf : Fr K w w') (hh : hi ≤ w.heap.size) (hK : ∀ k, lo ≤ k → k < hi → ¬ K k) : RowN w' lo hi A l := by
  rcases h with h | ⟨b, h1, h2, h3, h4⟩
  · exact .inl h
  · exact .inr ⟨b, h1, h2, h3, fun j x hj => (hf.cell (q := ⟨b, j, none⟩) (by simp; omega) (hK b h2 h3)).trans (h4 j x hj)⟩
theorem RowN.wide {w : World} {lo hi lo' hi' : Nat} {A : Option Addr} {l : List Nat} (h : RowN w lo hi A l) (h1 : lo' ≤ lo) (h2 : hi ≤ hi') : RowN w lo' hi' A l := by
  rcases h with h | ⟨b, g1, g2, g3, g4⟩
  · exact .inl h
  · exact .inr ⟨b, g1, by omega, by omega, g4⟩
/-- a slice of slices that reads as groups -/
def RowG (w : World) (lo hi : Nat) (A : Option Addr) (gs : List (List Nat)) : Prop :=
  gs = [] ∨ ∃ b, A = some ⟨b, 0, none⟩ ∧ lo ≤ b ∧ b < hi ∧ ∀ j l, gs[j]? = some l → ∃ A' c, w.cell? ⟨b, j, none⟩ = some (.slice A' l.length c) ∧ RowN w lo hi A' l
theorem RowG.kept {w w' : World} {lo hi : Nat} {A : Option Addr} {gs : List (List Nat)} {K : Nat → Prop} (h : RowG w lo hi A gs) (hf : Fr K w w') (hh : hi ≤ w.heap.size) (hK : ∀ k, lo ≤ k → k < hi → ¬ K k) : RowG w' lo hi A gs := by
  rcases h with h | ⟨b, h1, h2, h3, h4⟩
  · exact .inl h
  · refine .inr ⟨b, h1, h2, h3, fun j l hj => ?_⟩
    obtain ⟨A', c, g1, g2⟩ := h4 j l hj
    exact ⟨A', c, (hf.cell (q := ⟨b, j, none⟩) (by simp; omega) (hK b h2 h3)).trans g1, g2.kept hf hh hK⟩
theorem RowG.wide {w : World} {lo hi lo' hi' : Nat} {A : Option Addr} {gs : List (List Nat)} (h : RowG w lo hi A gs) (h1 : lo' ≤ lo) (h2 : hi ≤ hi') : RowG w lo' hi' A gs := by
  rcases h with h | ⟨b, g1, g2, g3, g4⟩
  · exact .inl h
  · exact .inr ⟨b, g1, by omega, by omega, fun j l hj => by obtain ⟨A', c, e1, e2⟩ := g4 j l hj; exact ⟨A', c, e1, e2.wide h1 h2⟩⟩
theorem RowG.call {w w' : World} {lo : Nat} {A : Option Addr} {gs : List (List Nat)} (h : RowG w lo w.heap.size A gs) (hb : Below w.heap.size w w') : RowG w' lo w'.heap.size A gs :=
  (h.kept (K := fun _ => False) ((Fr.refl _ w).call hb) (Nat.le_refl _) (fun _ _ _ => id)).wide (Nat.le_refl _) hb.size

theorem own_rowN {w : World} {B : Nat} {v : Value} {n : Nat} {l : List Nat} (h : w.ownsRow B 3 1 v n (nv l)) : ∃ A c, v = .slice A l.length c ∧ RowN w B w.heap.size A l := by
  have hn : n = l.length := by have := h.1; simp [nv] at this; exact this.symm
  subst hn
  obtain ⟨A, c, rfl, hA⟩ := own_slice h
  refine ⟨A, c, rfl, ?_⟩
  by_cases hl : l = []
  · exact .inl hl
  · obtain ⟨g, rfl⟩ := hA (List.length_pos_iff.2 hl)
    have hlt := h.lt g rfl
    refine .inr ⟨g, rfl, hlt.1, hlt.2, fun j x hj => ?_⟩
    have hjl : j < l.length := (List.getElem?_eq_some_iff.1 hj).1
    rw [h.cellAt _ (by omega)]
    simp [nv, hj]
theorem OG.read {w : World} {B : Nat} {v : Value} {gs : List (List Nat)} (h : OG w B v gs) : ∃ A c, v = .slice A gs.length c ∧ RowG w B w.heap.size A gs := by
  obtain ⟨hs, h1, h2, h3, h4, h5⟩ := h
  obtain ⟨A, c, rfl, hA⟩ := own_slice h2
  refine ⟨A, c, rfl, ?_⟩
  by_cases hl : gs = []
  · exact .inl hl
  · obtain ⟨g, rfl⟩ := hA (List.length_pos_iff.2 hl)
    have hlt := h2.lt g rfl
    refine .inr ⟨g, rfl, hlt.1, hlt.2, fun j l hj => ?_⟩
    have hjl : j < gs.length := (List.getElem?_eq_some_iff.1 hj).1
    have hk : hs[j]? = some (hs[j]'(by omega)) := List.getElem?_eq_getElem (by omega)
    obtain ⟨A', c', e, hr⟩ := own_rowN (h3 j _ l hk hj)
    exact ⟨A', c', by rw [h2.cellAt _ (by omega), hk, e], hr⟩

/-- a slice that reads as alerts, below block hi -/
def RowA (w : World) (hi : Nat) (A : Option Addr) (l : List Al) : Prop :=
  l = [] ∨ ∃ b o, A = some ⟨b, o, none⟩ ∧ b < hi ∧ ∀ j x, l[j]? = some x → ∀ i, i < 5 → w.cell? ⟨b, o + j * 5 + i, none⟩ = (acell x)[i]?
theorem RowA.kept {w w' : World} {hi : Nat} {A : Option Addr} {l : List Al} (h : RowA w hi A l) (hb : Below hi w w') : RowA w' hi A l := by
  rcases h with h | ⟨b, o, h1, h2, h3⟩
  · exact .inl h
  · exact .inr ⟨b, o, h1, h2, fun j x hj i hi => (hb.cell (p := ⟨b, o + j * 5 + i, none⟩) (by simpa using h2)).trans (h3 j x hj i hi)⟩
theorem RowA.wide {w : World} {hi hi' : Nat} {A : Option Addr} {l : List Al} (h : RowA w hi A l) (h2 : hi ≤ hi') : RowA w hi' A l := by
  rcases h with h | ⟨b, o, g1, g2, g3⟩
  · exact .inl h
  · exact .inr ⟨b, o, g1, by omega, g3⟩
end Go.Proofs.Ytfddnmibjaibhaa
