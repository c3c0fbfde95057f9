/- Plain laws: the reference's least indices; what is reached by way of close alerts; one alert more. -/
import Derived.Test.YtfddnmibjaibhaaMJ
namespace Go.Proofs.Ytfddnmibjaibhaa

/-! the least indices -/
/-- L is at most the index and has the colour of the index in every colouring that respects the edges -/
def Lw (E : Nat → Nat → Bool) (n : Nat) (L : Nat → Nat) : Prop := (∀ i, i < n → L i ≤ i) ∧ ∀ f, Resp n (fun x y => E x y = true) f → ∀ i, i < n → f (L i) = f i
theorem Lw.start (E : Nat → Nat → Bool) (n : Nat) : Lw E n (fun i => i) := ⟨fun _ _ => Nat.le_refl _, fun _ _ _ _ => rfl⟩
theorem Lw.step {E : Nat → Nat → Bool} {n : Nat} {L : Nat → Nat} (h : Lw E n L) {i k : Nat} (hi : i < n) (hk : k < n) (hE : E i k = true) (hlt : L k < L i) : Lw E n (fun j => if j = i then L k else L j) := by
  refine ⟨fun j hj => ?_, fun f hf j hj => ?_⟩
  · by_cases e : j = i
    · simp only [e, if_true]; have := h.1 i hi; omega
    · simp only [e, if_false]; exact h.1 j hj
  · by_cases e : j = i
    · simp only [e, if_true]; rw [h.2 f hf k hk]; exact (hf i k hi hk hE).symm
    · simp only [e, if_false]; exact h.2 f hf j hj
/-- no edge is left at which a lesser index could be taken over -/
def Done (E : Nat → Nat → Bool) (n : Nat) (L : Nat → Nat) : Prop := ∀ i k, i < n → k < n → E i k = true → ¬ L k < L i
theorem Lw.least {E : Nat → Nat → Bool} {n : Nat} {L : Nat → Nat} (hs : ∀ x y, E x y = E y x) (h : Lw E n L) (hd : Done E n L) : Least n (fun x y => E x y = true) L := by
  refine ⟨fun i j hi hj hr => ?_, fun f hf i j hi hj he => ?_⟩
  · have h1 := hd i j hi hj hr
    have h2 := hd j i hj hi (by rw [hs]; exact hr)
    omega
  · rw [← h.2 f hf i hi, ← h.2 f hf j hj, he]
theorem Lw.idem {E : Nat → Nat → Bool} {n : Nat} {L : Nat → Nat} (hs : ∀ x y, E x y = E y x) (h : Lw E n L) (hd : Done E n L) {i : Nat} (hi : i < n) : L (L i) = L i := h.2 L (h.least hs hd).resp i hi
theorem Lw.first {E : Nat → Nat → Bool} {n : Nat} {L : Nat → Nat} (hs : ∀ x y, E x y = E y x) (h : Lw E n L) (hd : Done E n L) {i : Nat} (hi : i < n) : isF L i = true ↔ L i = i := by
  rw [isF_of]
  constructor
  · intro hh
    have := h.1 i hi
    by_cases e : L i = i
    · exact e
    · exact absurd (h.idem hs hd hi) (hh (L i) (by omega))
  · intro e j hj he
    have := h.1 j (by omega)
    omega
/-- the groups with a first one below i, each whole -/
def glp (n i : Nat) (c : Nat → Nat) : List (List Nat) := (fr i c).map fun j => mem n c (c j)
theorem glp_zero (n : Nat) (c : Nat → Nat) : glp n 0 c = [] := rfl
theorem glp_full (n : Nat) (c : Nat → Nat) : glp n n c = gl n c := rfl
theorem glp_yes {n i : Nat} {c : Nat → Nat} (h : isF c i = true) : glp n (i + 1) c = glp n i c ++ [mem n c (c i)] := by
  unfold glp fr; rw [List.range_succ, List.filter_append, List.map_append]; simp [h]
theorem glp_no {n i : Nat} {c : Nat → Nat} (h : isF c i = false) : glp n (i + 1) c = glp n i c := by
  unfold glp fr; rw [List.range_succ, List.filter_append, List.map_append]; simp [h]
theorem glp_le (n i : Nat) (c : Nat → Nat) : (glp n i c).length ≤ i := by unfold glp; rw [List.length_map]; exact fr_le i c
/-- the sum of the first n -/
def sumN (n : Nat) (L : Nat → Nat) : Nat := ((List.range n).map L).sum
theorem sumN_succ (n : Nat) (L : Nat → Nat) : sumN (n + 1) L = sumN n L + L n := by unfold sumN; rw [List.range_succ, List.map_append, List.sum_append]; simp
theorem sumN_step {n : Nat} {L : Nat → Nat} {i v : Nat} (hi : i < n) (hv : v < L i) : sumN n (fun j => if j = i then v else L j) < sumN n L := by
  induction n with
  | zero => omega
  | succ n ih =>
    rw [sumN_succ, sumN_succ]
    by_cases e : n = i
    · subst e
      have : sumN n (fun j => if j = n then v else L j) = sumN n L := by
        unfold sumN
        congr 1
        refine List.map_congr_left fun j hj => ?_
        have : ¬ j = n := by have := List.mem_range.1 hj; omega
        simp only [this, if_false]
      rw [this]
      simp only [if_true]; omega
    · have := ih (by omega)
      simp only [e, if_false]; omega

/-! what is reached -/
/-- R: what has been reached in the group g; of its first m all close ones are there -/
structure Bf (E : Nat → Nat → Bool) (g R : List Nat) (m : Nat) : Prop where
  nodup : R.Nodup
  sub : ∀ x ∈ R, x ∈ g
  first : ∃ f, g[0]? = some f ∧ f ∈ R
  done : ∀ x ∈ R.take m, ∀ y ∈ g, E x y = true → y ∈ R
theorem Bf.start {E : Nat → Nat → Bool} {g : List Nat} {f : Nat} (h : g[0]? = some f) : Bf E g [f] 0 :=
  ⟨by simp, by intro x hx; rw [List.mem_singleton] at hx; rw [hx]; exact List.mem_of_getElem? h, ⟨f, h, by simp⟩, by simp⟩
theorem Bf.add {E : Nat → Nat → Bool} {g R : List Nat} {m y : Nat} (h : Bf E g R m) (hm : m ≤ R.length) (hy : y ∈ g) (hn : y ∉ R) : Bf E g (R ++ [y]) m := by
  refine ⟨?_, ?_, ?_, ?_⟩
  · rw [List.nodup_append]
    refine ⟨h.nodup, by simp, fun a ha b hb => ?_⟩
    rw [List.mem_singleton] at hb
    intro e; subst e; subst hb; exact hn ha
  · intro x hx
    rcases List.mem_append.1 hx with h1 | h1
    · exact h.sub x h1
    · rw [List.mem_singleton] at h1; rw [h1]; exact hy
  · obtain ⟨f, h1, h2⟩ := h.first; exact ⟨f, h1, List.mem_append_left _ h2⟩
  · intro x hx z hz he
    rw [List.take_append_of_le_length hm] at hx
    exact List.mem_append_left _ (h.done x hx z hz he)
theorem Bf.next {E : Nat → Nat → Bool} {g R : List Nat} {m x : Nat} (h : Bf E g R m) (hx : R[m]? = some x) (hd : ∀ y ∈ g, E x y = true → y ∈ R) : Bf E g R (m + 1) := by
  refine ⟨h.nodup, h.sub, h.first, fun z hz y hy he => ?_⟩
  obtain ⟨h1, h2⟩ := List.getElem?_eq_some_iff.1 hx
  rw [List.take_succ_eq_append_getElem h1, List.mem_append, h2, List.mem_singleton] at hz
  rcases hz with hz | rfl
  · exact h.done z hz y hy he
  · exact hd y hy he
theorem Bf.len {E : Nat → Nat → Bool} {g R : List Nat} {m : Nat} (h : Bf E g R m) : R.length ≤ g.length := nodup_le R g h.nodup h.sub
theorem sorted_nodup {g : List Nat} (h : g.Pairwise (· < ·)) : g.Nodup := h.imp fun h => by omega
theorem Bf.full {E : Nat → Nat → Bool} {n : Nat} {c : Nat → Nat} (hs : ∀ x y, E x y = E y x) (hc : Least n (fun x y => E x y = true) c) {p : Nat} {g R : List Nat} (hg : (gl n c)[p]? = some g) (h : Bf E g R R.length) : R.length = g.length := by
  obtain ⟨f, _, hm, hf, hsort, hin⟩ := gl_at hg
  obtain ⟨f', hf', hfR⟩ := h.first
  rw [hf] at hf'
  cases hf'
  have hcl : ∀ i j, i < n → j < n → E i j = true → i ∈ R → j ∈ R := by
    intro i j hi hj he hiR
    refine h.done i (by rw [List.take_length]; exact hiR) j ?_ he
    rw [hm]
    refine mem_mem.2 ⟨hj, ?_⟩
    rw [← hc.resp i j hi hj he]
    exact (hin i (h.sub i hiR)).2
  have hresp : Resp n (fun x y => E x y = true) (fun j => if j ∈ R then 1 else 0) := by
    intro i j hi hj he
    have h1 := hcl i j hi hj he
    have h2 := hcl j i hj hi (by rw [hs]; exact he)
    by_cases e : i ∈ R
    · simp only [e, h1 e, if_true]
    · have : j ∉ R := fun hh => e (h2 hh)
      simp only [e, this, if_false]
  refine Nat.le_antisymm h.len (nodup_le g R (sorted_nodup hsort) fun y hy => ?_)
  have hy2 := hin y hy
  have hf2 := hin f (List.mem_of_getElem? hf)
  have := hc.least _ hresp y f hy2.1 hf2.1 hy2.2
  simp only [hfR, if_true] at this
  by_cases e : y ∈ R
  · exact e
  · simp [e] at this

/-! one alert more -/
/-- is the group of i touched by what is close to the new one? -/
def tchd (E : Nat → Nat → Bool) (n : Nat) (c : Nat → Nat) (i : Nat) : Bool := (List.range n).any fun k => c i == c k && E k n
theorem tchd_of {E : Nat → Nat → Bool} {n : Nat} {c : Nat → Nat} {i : Nat} : tchd E n c i = true ↔ ∃ k, k < n ∧ c i = c k ∧ E k n = true := by
  unfold tchd; simp
theorem tchd_congr {E : Nat → Nat → Bool} {n : Nat} {c : Nat → Nat} {i j : Nat} (h : c i = c j) : tchd E n c i = tchd E n c j := by unfold tchd; rw [h]
theorem Least.more {E : Nat → Nat → Bool} (hs : ∀ x y, E x y = E y x) {n : Nat} {c d : Nat → Nat} (hc : Least n (fun x y => E x y = true) c) (hd : Least (n + 1) (fun x y => E x y = true) d) :
    (∀ i j, i < n → j < n → (d i = d j ↔ c i = c j ∨ (tchd E n c i = true ∧ tchd E n c j = true))) ∧ (∀ i, i < n → (d i = d n ↔ tchd E n c i = true)) := by
  have hdn : ∀ i, i < n → tchd E n c i = true → d i = d n := by
    intro i hi ht
    obtain ⟨k, hk, hck, he⟩ := tchd_of.1 ht
    have h1 := hc.least d (fun a b ha hb hr => hd.resp a b (by omega) (by omega) hr) i k hi hk hck
    rw [h1]; exact hd.resp k n (by omega) (by omega) he
  -- the colouring: 0 for what is touched and the new one, the colour and 1 else
  have hf : Resp (n + 1) (fun x y => E x y = true) (fun x => if x < n then (if tchd E n c x = true then 0 else c x + 1) else 0) := by
    have key : ∀ i, i < n → E i n = true → (if tchd E n c i = true then 0 else c i + 1) = 0 := by
      intro i hi he
      rw [if_pos (tchd_of.2 ⟨i, hi, rfl, he⟩)]
    intro i j hi hj he
    by_cases h1 : i < n
    · by_cases h2 : j < n
      · have e := hc.resp i j h1 h2 he
        simp only [h1, h2, if_true, e, tchd_congr e]
      · have : j = n := by omega
        subst this
        simp only [h1, h2, if_true, if_false]
        exact key i h1 he
    · have : i = n := by omega
      subst this
      by_cases h2 : j < i
      · simp only [h1, h2, if_true, if_false]
        exact (key j h2 (by rw [hs]; exact he)).symm
      · simp only [h1, h2, if_false]
  have hfl := hd.least _ hf
  constructor
  · intro i j hi hj
    constructor
    · intro h
      have := hfl i j (by omega) (by omega) h
      simp only [hi, hj, if_true] at this
      by_cases e1 : tchd E n c i = true
      · by_cases e2 : tchd E n c j = true
        · exact .inr ⟨e1, e2⟩
        · simp only [e1, e2, if_true] at this; simp at this
      · by_cases e2 : tchd E n c j = true
        · simp only [e1, e2, if_true] at this; simp at this
        · simp only [e1, e2] at this
          left; simpa using this
    · rintro (h | ⟨h1, h2⟩)
      · exact hc.least d (fun a b ha hb hr => hd.resp a b (by omega) (by omega) hr) i j hi hj h
      · rw [hdn i hi h1, hdn j hj h2]
  · intro i hi
    refine ⟨fun h => ?_, hdn i hi⟩
    have := hfl i n (by omega) (by omega) h
    simp only [hi, if_true, Nat.lt_irrefl, if_false] at this
    by_cases e1 : tchd E n c i = true
    · exact e1
    · simp [e1] at this
/-- the size of the new one's group -/
theorem more_size {E : Nat → Nat → Bool} {n : Nat} {c d : Nat → Nat} (h : ∀ i, i < n → (d i = d n ↔ tchd E n c i = true)) : (mem (n + 1) d (d n)).length = 1 + ((List.range n).filter (tchd E n c)).length := by
  rw [mem_succ, if_pos rfl, List.length_append]
  unfold mem
  rw [List.filter_congr (q := tchd E n c)]
  · simp; omega
  · intro i hi
    have := h i (List.mem_range.1 hi)
    rw [Bool.eq_iff_iff, ← this]
    simp
end Go.Proofs.Ytfddnmibjaibhaa
