/- Plain maths of the merging of alerts: colourings that are least over a relation, groups in order. -/
import Derived.Test.YtfddnmibjaibhaaS0
namespace Go.Proofs.Ytfddnmibjaibhaa

/-- f gives the two ends of each edge one colour -/
def Resp (n : Nat) (R : Nat → Nat → Prop) (f : Nat → Nat) : Prop := ∀ i j, i < n → j < n → R i j → f i = f j
/-- c gives one colour just where every colouring that respects the edges does -/
structure Least (n : Nat) (R : Nat → Nat → Prop) (c : Nat → Nat) : Prop where
  resp : Resp n R c
  least : ∀ f, Resp n R f → ∀ i j, i < n → j < n → c i = c j → f i = f j

theorem Least.same {n : Nat} {R : Nat → Nat → Prop} {c c' : Nat → Nat} (h : Least n R c) (h' : Least n R c') (i j : Nat) (hi : i < n) (hj : j < n) : c i = c j ↔ c' i = c' j :=
  ⟨h.least c' h'.resp i j hi hj, h'.least c h.resp i j hi hj⟩
theorem Least.kernel {n : Nat} {R : Nat → Nat → Prop} {c c' : Nat → Nat} (h : Least n R c) (hk : ∀ i j, i < n → j < n → (c i = c j ↔ c' i = c' j)) : Least n R c' :=
  ⟨fun i j hi hj hr => (hk i j hi hj).1 (h.resp i j hi hj hr), fun f hf i j hi hj he => h.least f hf i j hi hj ((hk i j hi hj).2 he)⟩

/-- the edges on 0..n when those between n and 0..k-1 have been looked at -/
def Part (E : Nat → Nat → Bool) (n k : Nat) (x y : Nat) : Prop := (E x y = true ∧ x < n ∧ y < n) ∨ (E n x = true ∧ x < k ∧ y = n)

theorem Least.zero (R : Nat → Nat → Prop) (c : Nat → Nat) : Least 0 R c := ⟨fun i j hi => absurd hi (by omega), fun f hf i j hi => absurd hi (by omega)⟩

theorem Least.add {E : Nat → Nat → Bool} {n : Nat} {c c' : Nat → Nat} (h : Least n (fun x y => E x y = true) c) (h1 : ∀ i, i < n → c' i = c i) (h2 : ∀ i, i < n → c' i ≠ c' n) : Least (n + 1) (Part E n 0) c' := by
  constructor
  · intro i j hi hj hr
    rcases hr with ⟨h, h3, h4⟩ | ⟨_, h3, _⟩
    · rw [h1 i h3, h1 j h4]; exact Least.resp ‹_› i j h3 h4 h
    · omega
  · intro f hf i j hi hj he
    by_cases e1 : i = n
    · by_cases e2 : j = n
      · rw [e1, e2]
      · subst e1; exact absurd he.symm (h2 j (by omega))
    · by_cases e2 : j = n
      · subst e2; exact absurd he (h2 i (by omega))
      · rw [h1 i (by omega), h1 j (by omega)] at he
        exact h.least f (fun a b ha hb hab => hf a b (by omega) (by omega) (.inl ⟨hab, ha, hb⟩)) i j (by omega) (by omega) he

theorem Least.skip {E : Nat → Nat → Bool} {n k : Nat} {c : Nat → Nat} (h : Least (n + 1) (Part E n k) c) (hE : E n k = false) : Least (n + 1) (Part E n (k + 1)) c := by
  refine ⟨fun i j hi hj hr => h.resp i j hi hj ?_, fun f hf => h.least f fun i j hi hj hr => hf i j hi hj ?_⟩
  · rcases hr with h | ⟨h1, h2, h3⟩
    · exact .inl h
    · refine .inr ⟨h1, ?_, h3⟩
      by_cases e : i = k
      · subst e; rw [hE] at h1; simp at h1
      · omega
  · rcases hr with h | ⟨h1, h2, h3⟩
    · exact .inl h
    · exact .inr ⟨h1, by omega, h3⟩

theorem Least.join {E : Nat → Nat → Bool} {n k : Nat} {c c' : Nat → Nat} (hk : k < n) (h : Least (n + 1) (Part E n k) c) (hE : E n k = true)
    (hj : ∀ x y, x < n + 1 → y < n + 1 → (c' x = c' y ↔ c x = c y ∨ (c x = c k ∧ c y = c n) ∨ (c x = c n ∧ c y = c k))) : Least (n + 1) (Part E n (k + 1)) c' := by
  constructor
  · intro i j hi hj' hr
    rw [hj i j hi hj']
    rcases hr with hr | ⟨h1, h2, h3⟩
    · exact .inl (h.resp i j hi hj' (.inl hr))
    · by_cases e : i = k
      · subst e; subst h3; exact .inr (.inl ⟨rfl, rfl⟩)
      · exact .inl (h.resp i j hi hj' (.inr ⟨h1, by omega, h3⟩))
  · intro f hf i j hi hj' he
    have hf' : Resp (n + 1) (Part E n k) f := fun a b ha hb hab => hf a b ha hb (by
      rcases hab with h | ⟨h1, h2, h3⟩
      · exact .inl h
      · exact .inr ⟨h1, by omega, h3⟩)
    have hkn : f k = f n := hf k n (by omega) (by omega) (.inr ⟨hE, by omega, rfl⟩)
    rcases (hj i j hi hj').1 he with e | ⟨e1, e2⟩ | ⟨e1, e2⟩
    · exact h.least f hf' i j hi hj' e
    · rw [h.least f hf' i k hi (by omega) e1, h.least f hf' j n hj' (by omega) e2, hkn]
    · rw [h.least f hf' i n hi (by omega) e1, h.least f hf' j k hj' (by omega) e2, hkn]

theorem Least.full {E : Nat → Nat → Bool} {n : Nat} {c : Nat → Nat} (hs : ∀ x y, E x y = E y x) (h : Least (n + 1) (Part E n n) c) : Least (n + 1) (fun x y => E x y = true) c := by
  refine ⟨fun i j hi hj hr => ?_, fun f hf => h.least f fun i j hi hj hr => ?_⟩
  · by_cases e1 : i = n
    · by_cases e2 : j = n
      · rw [e1, e2]
      · subst e1
        exact (h.resp j i hj hi (.inr ⟨hr, by omega, rfl⟩)).symm
    · by_cases e2 : j = n
      · subst e2
        exact h.resp i j hi hj (.inr ⟨by rw [hs]; exact hr, by omega, rfl⟩)
      · exact h.resp i j hi hj (.inl ⟨hr, by omega, by omega⟩)
  · rcases hr with ⟨h1, _, _⟩ | ⟨h1, h2, h3⟩
    · exact hf i j hi hj h1
    · subst h3; exact (hf j i hj hi h1).symm

/-! the colouring reckoned -/
def jns (E : Nat → Nat → Bool) (n : Nat) : Nat → (Nat → Nat) → (Nat → Nat)
  | 0, c => c
  | k + 1, c => if E n k then (fun x => if jns E n k c x = jns E n k c k then jns E n k c n else jns E n k c x) else jns E n k c
def lst (E : Nat → Nat → Bool) : Nat → (Nat → Nat)
  | 0 => fun x => x
  | n + 1 => jns E n n (lst E n)

theorem jns_bd (E : Nat → Nat → Bool) (n k : Nat) (c : Nat → Nat) (hk : k ≤ n) (h1 : ∀ x, x ≤ n → c x ≤ n) (h2 : ∀ x, n < x → c x = x) : (∀ x, x ≤ n → jns E n k c x ≤ n) ∧ (∀ x, n < x → jns E n k c x = x) := by
  induction k with
  | zero => exact ⟨h1, h2⟩
  | succ k ih =>
    obtain ⟨i1, i2⟩ := ih (by omega)
    unfold jns
    by_cases hE : E n k = true
    · rw [if_pos hE]
      refine ⟨fun x hx => ?_, fun x hx => ?_⟩
      · by_cases e : jns E n k c x = jns E n k c k
        · simp only [e, if_true]; exact i1 n (Nat.le_refl _)
        · simp only [e, if_false]; exact i1 x hx
      · have : ¬ jns E n k c x = jns E n k c k := by rw [i2 x hx]; have := i1 k (by omega); omega
        simp only [this, if_false]; exact i2 x hx
    · rw [if_neg hE]; exact ⟨i1, i2⟩

theorem lst_bd (E : Nat → Nat → Bool) (n : Nat) : (∀ x, x < n → lst E n x < n) ∧ (∀ x, n ≤ x → lst E n x = x) := by
  induction n with
  | zero => exact ⟨fun x hx => absurd hx (by omega), fun x _ => rfl⟩
  | succ n ih =>
    obtain ⟨i1, i2⟩ := ih
    have := jns_bd E n n (lst E n) (Nat.le_refl _) (fun x hx => by
      by_cases e : x = n
      · rw [e, i2 n (Nat.le_refl _)]; exact Nat.le_refl _
      · have := i1 x (by omega); omega) (fun x hx => i2 x (by omega))
    exact ⟨fun x hx => Nat.lt_succ_of_le (this.1 x (by omega)), fun x hx => this.2 x (by omega)⟩

theorem jns_least (E : Nat → Nat → Bool) (n k : Nat) (c : Nat → Nat) (hk : k ≤ n) (h : Least (n + 1) (Part E n 0) c) : Least (n + 1) (Part E n k) (jns E n k c) := by
  induction k with
  | zero => exact h
  | succ k ih =>
    have ih := ih (by omega)
    unfold jns
    by_cases hE : E n k = true
    · rw [if_pos hE]
      refine ih.join (by omega) hE fun x y hx hy => ?_
      generalize jns E n k c = g
      by_cases e1 : g x = g k <;> by_cases e2 : g y = g k <;> simp only [e1, e2, if_true, if_false] <;> constructor <;> intro hh <;> simp_all <;> omega
    · rw [if_neg hE]; exact ih.skip (by simpa using hE)

theorem lst_least (E : Nat → Nat → Bool) (hs : ∀ x y, E x y = E y x) (n : Nat) : Least n (fun x y => E x y = true) (lst E n) := by
  induction n with
  | zero => exact .zero _ _
  | succ n ih =>
    obtain ⟨i1, i2⟩ := lst_bd E n
    exact (jns_least E n n _ (Nat.le_refl _) (ih.add (fun _ _ => rfl) fun i hi => by rw [i2 n (Nat.le_refl _)]; have := i1 i hi; omega)).full hs

/-! groups -/
/-- the members below n of colour r -/
def mem (n : Nat) (c : Nat → Nat) (r : Nat) : List Nat := (List.range n).filter fun k => c k == r
/-- is i the first of its colour? -/
def isF (c : Nat → Nat) (i : Nat) : Bool := (List.range i).all fun j => c j != c i
/-- the first ones below n -/
def fr (n : Nat) (c : Nat → Nat) : List Nat := (List.range n).filter (isF c)
/-- the groups, in order -/
def gl (n : Nat) (c : Nat → Nat) : List (List Nat) := (fr n c).map fun j => mem n c (c j)

theorem isF_of {c : Nat → Nat} {i : Nat} : isF c i = true ↔ ∀ j, j < i → c j ≠ c i := by simp [isF]
theorem mem_mem {n : Nat} {c : Nat → Nat} {r k : Nat} : k ∈ mem n c r ↔ k < n ∧ c k = r := by simp [mem]
theorem mem_fr {n : Nat} {c : Nat → Nat} {i : Nat} : i ∈ fr n c ↔ i < n ∧ ∀ j, j < i → c j ≠ c i := by simp [fr, isF_of]
theorem mem_succ (n : Nat) (c : Nat → Nat) (r : Nat) : mem (n + 1) c r = mem n c r ++ if c n = r then [n] else [] := by
  unfold mem
  rw [List.range_succ, List.filter_append]
  by_cases h : c n = r <;> simp [h]
theorem mem_le (n : Nat) (c : Nat → Nat) (r : Nat) : (mem n c r).length ≤ n := by
  have := List.length_filter_le (fun k => c k == r) (List.range n); simpa [mem] using this
theorem fr_le (n : Nat) (c : Nat → Nat) : (fr n c).length ≤ n := by
  have := List.length_filter_le (isF c) (List.range n); simpa [fr] using this
theorem gl_length (n : Nat) (c : Nat → Nat) : (gl n c).length = (fr n c).length := by simp [gl]
theorem fr_sorted (n : Nat) (c : Nat → Nat) : (fr n c).Pairwise (· < ·) := List.Pairwise.filter _ List.pairwise_lt_range
theorem mem_sorted (n : Nat) (c : Nat → Nat) (r : Nat) : (mem n c r).Pairwise (· < ·) := List.Pairwise.filter _ List.pairwise_lt_range

theorem gl_congr {n : Nat} {c c' : Nat → Nat} (h : ∀ i j, i < n → j < n → (c i = c j ↔ c' i = c' j)) : gl n c = gl n c' := by
  have e : fr n c = fr n c' := by
    unfold fr
    refine List.filter_congr fun i hi => ?_
    rw [Bool.eq_iff_iff, isF_of, isF_of]
    have hi : i < n := by simpa using hi
    exact ⟨fun hh j hj => fun he => hh j hj ((h j i (by omega) hi).2 he), fun hh j hj => fun he => hh j hj ((h j i (by omega) hi).1 he)⟩
  unfold gl
  rw [e]
  refine List.map_congr_left fun j hj => ?_
  have hj := (mem_fr.1 hj).1
  unfold mem
  refine List.filter_congr fun k hk => ?_
  have hk : k < n := by simpa using hk
  rw [Bool.eq_iff_iff]
  simp only [beq_iff_eq]
  exact h k j hk hj
theorem mem_congr {n : Nat} {c c' : Nat → Nat} (h : ∀ i j, i < n → j < n → (c i = c j ↔ c' i = c' j)) {i : Nat} (hi : i < n) : mem n c (c i) = mem n c' (c' i) := by
  unfold mem
  refine List.filter_congr fun k hk => ?_
  have hk : k < n := by simpa using hk
  rw [Bool.eq_iff_iff]
  simp only [beq_iff_eq]
  exact h k i hk hi

/-- each below n has a first one of its colour -/
theorem fr_has (n : Nat) (c : Nat → Nat) (i : Nat) (hi : i < n) : ∃ j ∈ fr n c, c j = c i ∧ j ≤ i := by
  induction i using Nat.strongRecOn with
  | ind i ih =>
    by_cases h : ∀ j, j < i → c j ≠ c i
    · exact ⟨i, mem_fr.2 ⟨hi, h⟩, rfl, Nat.le_refl _⟩
    · simp only [Classical.not_forall, Decidable.not_not] at h
      obtain ⟨j, hj, hc⟩ := h
      obtain ⟨k, hk, hc', hle⟩ := ih j hj (by omega)
      exact ⟨k, hk, hc'.trans hc, by omega⟩
theorem fr_inj {n : Nat} {c : Nat → Nat} {i j : Nat} (hi : i ∈ fr n c) (hj : j ∈ fr n c) (h : c i = c j) : i = j := by
  rcases Nat.lt_trichotomy i j with e | e | e
  · exact absurd h ((mem_fr.1 hj).2 i e)
  · exact e
  · exact absurd h.symm ((mem_fr.1 hi).2 j e)
theorem fr_old {n : Nat} {c : Nat → Nat} {j : Nat} (hj : j < n) (h : c j = c n) : fr (n + 1) c = fr n c := by
  unfold fr
  rw [List.range_succ, List.filter_append]
  have : isF c n = false := by rw [Bool.eq_false_iff]; intro hh; exact isF_of.1 hh j hj h
  simp [this]
theorem fr_new {n : Nat} {c : Nat → Nat} (h : ∀ j, j < n → c j ≠ c n) : fr (n + 1) c = fr n c ++ [n] := by
  unfold fr
  rw [List.range_succ, List.filter_append]
  simp [isF_of.2 h]
theorem gl_new {n : Nat} {c : Nat → Nat} (h : ∀ j, j < n → c j ≠ c n) : gl (n + 1) c = gl n c ++ [[n]] := by
  unfold gl
  rw [fr_new h, List.map_append]
  congr 1
  · refine List.map_congr_left fun j hj => ?_
    rw [mem_succ, if_neg (fun e => h j (mem_fr.1 hj).1 e.symm), List.append_nil]
  · have : mem n c (c n) = [] := by
      rw [List.eq_nil_iff_forall_not_mem]
      intro k hk
      exact h k (mem_mem.1 hk).1 (mem_mem.1 hk).2
    simp [mem_succ, this]
theorem gl_old {n p : Nat} {c : Nat → Nat} (hp : p < (gl n c).length) (h : c ((fr n c)[p]'(by rw [← gl_length]; exact hp)) = c n) : gl (n + 1) c = (gl n c).set p ((gl n c)[p] ++ [n]) := by
  have hp' : p < (fr n c).length := by rw [← gl_length]; exact hp
  have hm := List.getElem_mem hp'
  have e := fr_old (mem_fr.1 hm).1 h
  apply List.ext_getElem
  · rw [List.length_set, gl_length, gl_length, e]
  · intro q h1 h2
    rw [List.getElem_set]
    have hq : q < (fr n c).length := by rw [gl_length, e] at h1; exact h1
    by_cases hqp : p = q
    · subst hqp
      rw [if_pos rfl]
      simp only [gl, List.getElem_map, e]
      rw [mem_succ, if_pos h.symm]
    · rw [if_neg hqp]
      simp only [gl, List.getElem_map, e]
      rw [mem_succ, if_neg, List.append_nil]
      intro hh
      have := fr_inj (List.getElem_mem hq) hm (hh.symm.trans h.symm)
      have hpw := fr_sorted n c
      rw [List.pairwise_iff_getElem] at hpw
      rcases Nat.lt_trichotomy p q with e1 | e1 | e1
      · have := hpw p q hp' hq e1; omega
      · exact hqp e1
      · have := hpw q p hq hp' e1; omega
end Go.Proofs.Ytfddnmibjaibhaa
