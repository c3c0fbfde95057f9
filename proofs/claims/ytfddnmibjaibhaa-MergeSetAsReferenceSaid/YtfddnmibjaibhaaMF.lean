/- Plain laws of groups: each in order, first ones in order, the number of the group of each. -/
import Derived.Test.YtfddnmibjaibhaaM0
namespace Go.Proofs.Ytfddnmibjaibhaa

theorem gl_at {n : Nat} {c : Nat → Nat} {p : Nat} {l : List Nat} (h : (gl n c)[p]? = some l) : ∃ f, (fr n c)[p]? = some f ∧ l = mem n c (c f) ∧ l[0]? = some f ∧ l.Pairwise (· < ·) ∧ ∀ x ∈ l, x < n ∧ c x = c f := by
  unfold gl at h
  rw [List.getElem?_map] at h
  obtain ⟨f, hf, rfl⟩ := Option.map_eq_some_iff.1 h
  have hm := mem_fr.1 (List.mem_of_getElem? hf)
  have hin : f ∈ mem n c (c f) := mem_mem.2 ⟨hm.1, rfl⟩
  have hs := mem_sorted n c (c f)
  refine ⟨f, hf, rfl, ?_, hs, fun x hx => mem_mem.1 hx⟩
  cases e : mem n c (c f) with
  | nil => rw [e] at hin; simp at hin
  | cons y ys =>
    rw [e] at hs hin
    have hy : y ∈ mem n c (c f) := by rw [e]; simp
    have hyc := (mem_mem.1 hy).2
    have : ¬ y < f := fun hlt => hm.2 y hlt hyc
    rcases List.mem_cons.1 hin with rfl | hin
    · rfl
    · have := (List.pairwise_cons.1 hs).1 f hin
      omega

/-- the number of the group of j -/
def idx (n : Nat) (c : Nat → Nat) (j : Nat) : Nat := (fr n c).findIdx fun f => c f == c j
theorem idx_of {n : Nat} {c : Nat → Nat} {p f j : Nat} (h : (fr n c)[p]? = some f) (hc : c j = c f) : idx n c j = p := by
  obtain ⟨hp, rfl⟩ := List.getElem?_eq_some_iff.1 h
  unfold idx
  rw [List.findIdx_eq hp]
  refine ⟨by simp [hc], fun q hq => ?_⟩
  have hql : q < (fr n c).length := by omega
  rw [beq_eq_false_iff_ne]
  intro e
  have := fr_inj (List.getElem_mem hql) (List.getElem_mem hp) (e.trans hc)
  have hpw := fr_sorted n c
  rw [List.pairwise_iff_getElem] at hpw
  have := hpw q p hql hp hq
  omega
theorem idx_has {n : Nat} {c : Nat → Nat} {j : Nat} (hj : j < n) : ∃ f, (fr n c)[idx n c j]? = some f ∧ c f = c j := by
  obtain ⟨f, hf, hc, _⟩ := fr_has n c j hj
  obtain ⟨p, hp⟩ := List.mem_iff_getElem?.1 hf
  rw [idx_of hp hc.symm]
  exact ⟨f, hp, hc⟩
theorem idx_lt {n : Nat} {c : Nat → Nat} {j : Nat} (hj : j < n) : idx n c j < (gl n c).length := by
  obtain ⟨f, hf, _⟩ := idx_has (c := c) hj
  rw [gl_length]
  exact (List.getElem?_eq_some_iff.1 hf).1
theorem idx_eq {n : Nat} {c : Nat → Nat} {j k : Nat} (hj : j < n) (hk : k < n) : idx n c j = idx n c k ↔ c j = c k := by
  obtain ⟨f, hf, hc⟩ := idx_has (c := c) hj
  obtain ⟨g, hg, hd⟩ := idx_has (c := c) hk
  constructor
  · intro e
    rw [e, hg] at hf
    cases hf
    rw [← hc, hd]
  · intro e
    exact (idx_of hg (e.trans hd.symm))
theorem idx_mem {n : Nat} {c : Nat → Nat} {p x : Nat} {l : List Nat} (h : (gl n c)[p]? = some l) (hx : x < n) : x ∈ l ↔ idx n c x = p := by
  obtain ⟨f, hf, rfl, _⟩ := gl_at h
  constructor
  · intro hm; exact idx_of hf (mem_mem.1 hm).2
  · intro e
    obtain ⟨g, hg, hd⟩ := idx_has (c := c) hx
    rw [e, hf] at hg
    cases hg
    exact mem_mem.2 ⟨hx, hd.symm⟩
theorem gl_sum (n : Nat) (c : Nat → Nat) : (gl n c).flatten.length = n := by
  induction n with
  | zero => simp [gl, fr]
  | succ n ih =>
    by_cases h : ∃ j, j < n ∧ c j = c n
    · obtain ⟨j, hj, hc⟩ := h
      obtain ⟨f, hf, hfc, _⟩ := fr_has n c j hj
      obtain ⟨p, hp, hpf⟩ := List.getElem_of_mem hf
      have hp' : p < (gl n c).length := by rw [gl_length]; exact hp
      rw [gl_old hp' (by rw [hpf, hfc, hc])]
      have e : gl n c = (gl n c).take p ++ (gl n c)[p] :: (gl n c).drop (p + 1) := by
        rw [List.getElem_cons_drop, List.take_append_drop]
      have e2 : (gl n c).set p ((gl n c)[p] ++ [n]) = (gl n c).take p ++ ((gl n c)[p] ++ [n]) :: (gl n c).drop (p + 1) := by
        rw [List.set_eq_take_append_cons_drop, if_pos hp']
      rw [e2]
      rw [e] at ih
      simp only [List.flatten_append, List.flatten_cons, List.length_append, List.length_singleton] at ih ⊢
      omega
    · rw [gl_new (fun j hj e => h ⟨j, hj, e⟩)]
      simp [ih]
theorem gl_take_sum {n : Nat} {c : Nat → Nat} {i : Nat} {l : List Nat} (h : (gl n c)[i]? = some l) : ((gl n c).take (i + 1)).flatten.length = ((gl n c).take i).flatten.length + l.length := by
  obtain ⟨hi, rfl⟩ := List.getElem?_eq_some_iff.1 h
  rw [List.take_succ_eq_append_getElem hi]
  simp only [List.flatten_append, List.length_append, List.flatten_cons, List.flatten_nil, List.append_nil]
theorem gl_take_le (n : Nat) (c : Nat → Nat) (i : Nat) : ((gl n c).take i).flatten.length ≤ n := by
  have h := gl_sum n c
  rw [← List.take_append_drop i (gl n c)] at h
  simp only [List.flatten_append, List.length_append] at h
  omega
theorem gl_len_le {n : Nat} {c : Nat → Nat} {l : List Nat} (h : l ∈ gl n c) : 0 < l.length ∧ l.length ≤ n := by
  obtain ⟨p, hp⟩ := List.mem_iff_getElem?.1 h
  obtain ⟨f, _, e, h0, _⟩ := gl_at hp
  refine ⟨(List.getElem?_eq_some_iff.1 h0).1, by rw [e]; exact mem_le _ _ _⟩
theorem gl_first {n : Nat} {c : Nat → Nat} {p q : Nat} {l m : List Nat} {x y : Nat} (hp : (gl n c)[p]? = some l) (hq : (gl n c)[q]? = some m) (hpq : p < q) (hx : l[0]? = some x) (hy : m[0]? = some y) : x < y := by
  obtain ⟨f, hf, _, h0, _⟩ := gl_at hp
  obtain ⟨g, hg, _, h1, _⟩ := gl_at hq
  rw [h0] at hx
  rw [h1] at hy
  cases hx
  cases hy
  have hpw := fr_sorted n c
  rw [List.pairwise_iff_getElem] at hpw
  obtain ⟨a1, rfl⟩ := List.getElem?_eq_some_iff.1 hf
  obtain ⟨a2, rfl⟩ := List.getElem?_eq_some_iff.1 hg
  exact hpw p q a1 a2 hpq
/-- the numbers as 'of' has written them when k of group i have been seen -/
def numF (n : Nat) (c : Nat → Nat) (i : Nat) (l : List Nat) (j : Nat) : Nat := if idx n c j < i ∨ j ∈ l then idx n c j + 1 else 0
theorem numF_next {n : Nat} {c : Nat → Nat} {i j : Nat} {l : List Nat} (h : (gl n c)[i]? = some l) (hj : j < n) : numF n c i l j = numF n c (i + 1) [] j := by
  unfold numF
  have := idx_mem h hj
  by_cases e : j ∈ l
  · have := this.1 e
    rw [if_pos (.inr e), if_pos (.inl (by omega))]
  · have : idx n c j ≠ i := fun e' => e (this.2 e')
    by_cases e2 : idx n c j < i
    · rw [if_pos (.inl e2), if_pos (.inl (by omega))]
    · rw [if_neg (by simp [e, e2]), if_neg (by simp; omega)]
end Go.Proofs.Ytfddnmibjaibhaa
