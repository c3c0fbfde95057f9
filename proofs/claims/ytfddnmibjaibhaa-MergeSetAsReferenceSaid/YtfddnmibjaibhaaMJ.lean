/- Plain laws of the opposite order; a list of alerts that is built by append. -/
import Derived.Test.YtfddnmibjaibhaaMH
import Derived.Test.YtfddnmibjaibhaaMI
namespace Go.Proofs.Ytfddnmibjaibhaa
open Go.RowKit Go.Maps

theorem nodup_le : ∀ (l m : List Nat), l.Nodup → (∀ x ∈ l, x ∈ m) → l.length ≤ m.length
  | [], _, _, _ => Nat.zero_le _
  | x :: xs, m, h, hs => by
    have hx : x ∈ m := hs x (by simp)
    have h1 := List.nodup_cons.1 h
    have := nodup_le xs (m.erase x) h1.2 (fun y hy => (List.mem_erase_of_ne (fun e => by subst e; exact h1.1 hy)).2 (hs y (by simp [hy])))
    rw [List.length_erase_of_mem hx] at this
    have : 0 < m.length := List.length_pos_of_mem hx
    simp only [List.length_cons]; omega
theorem Least.perm {n : Nat} {R R' : Nat → Nat → Prop} {c : Nat → Nat} (h : Least n R' c) (s : Nat → Nat) (hs : ∀ i, i < n → s i < n ∧ s (s i) = i) (hR : ∀ i j, i < n → j < n → (R i j ↔ R' (s i) (s j))) : Least n R (fun i => c (s i)) := by
  refine ⟨fun i j hi hj hr => h.resp _ _ (hs i hi).1 (hs j hj).1 ((hR i j hi hj).1 hr), fun f hf i j hi hj he => ?_⟩
  have := h.least (fun x => f (s x)) (fun a b ha hb hab => hf _ _ (hs a ha).1 (hs b hb).1 ((hR _ _ (hs a ha).1 (hs b hb).1).2 (by rw [(hs a ha).2, (hs b hb).2]; exact hab))) (s i) (s j) (hs i hi).1 (hs j hj).1 he
  simpa only [(hs i hi).2, (hs j hj).2] using this
theorem gl_len_map {n m : Nat} {c d : Nat → Nat} (s : Nat → Nat) (hs : ∀ i, i < n → s i < m) (h : ∀ i j, i < n → j < n → d (s i) = d (s j) → c i = c j) : (gl n c).length ≤ (gl m d).length := by
  have h1 : ((fr n c).map fun f => idx m d (s f)).length ≤ (List.range (gl m d).length).length := by
    refine nodup_le _ _ ?_ ?_
    · unfold List.Nodup
      rw [List.pairwise_map]
      have := fr_sorted n c
      rw [List.pairwise_iff_getElem] at this ⊢
      intro i j hi hj hij e
      have hlt := this i j hi hj hij
      have mi := (mem_fr.1 (List.getElem_mem hi)).1
      have mj := (mem_fr.1 (List.getElem_mem hj)).1
      have := fr_inj (List.getElem_mem hi) (List.getElem_mem hj) (h _ _ mi mj ((idx_eq (hs _ mi) (hs _ mj)).1 e))
      omega
    · intro x hx
      rw [List.mem_map] at hx
      obtain ⟨f, hf, rfl⟩ := hx
      rw [List.mem_range]
      exact idx_lt (hs _ (mem_fr.1 hf).1)
  rw [gl_length n c]
  simpa using h1

theorem edge_rev (win : Int) (l : List Al) (i j : Nat) (hi : i < l.length) (hj : j < l.length) : edge win l i j = edge win l.reverse (l.length - 1 - i) (l.length - 1 - j) := by
  unfold edge
  rw [List.getElem?_reverse (by omega), List.getElem?_reverse (by omega)]
  rw [show l.length - 1 - (l.length - 1 - i) = i from by omega, show l.length - 1 - (l.length - 1 - j) = j from by omega]
theorem col_rev (win : Int) (l : List Al) {i j : Nat} (hi : i < l.length) (hj : j < l.length) : col win l i = col win l j ↔ col win l.reverse (l.length - 1 - i) = col win l.reverse (l.length - 1 - j) := by
  have h := col_least win l.reverse
  rw [List.length_reverse] at h
  exact (col_least win l).same (h.perm (fun i => l.length - 1 - i) (fun i hi => by omega) (fun i j hi hj => by rw [edge_rev win l i j hi hj])) i j hi hj
theorem idx_rev (win : Int) (l : List Al) {i j : Nat} (hi : i < l.length) (hj : j < l.length) :
    idx l.length (col win l) i = idx l.length (col win l) j ↔ idx l.length (col win l.reverse) (l.length - 1 - i) = idx l.length (col win l.reverse) (l.length - 1 - j) := by
  rw [idx_eq hi hj, idx_eq (by omega) (by omega), col_rev win l hi hj]
theorem gl_rev (win : Int) (l : List Al) : (gl l.length (col win l)).length = (gl l.length (col win l.reverse)).length := by
  refine Nat.le_antisymm (gl_len_map (fun i => l.length - 1 - i) (fun i hi => by omega) (fun i j hi hj he => (col_rev win l hi hj).2 he)) (gl_len_map (fun i => l.length - 1 - i) (fun i hi => by omega) (fun i j hi hj he => ?_))
  have := (col_rev win l (i := l.length - 1 - i) (j := l.length - 1 - j) (by omega) (by omega)).1 he
  rwa [show l.length - 1 - (l.length - 1 - i) = i from by omega, show l.length - 1 - (l.length - 1 - j) = j from by omega] at this
theorem okG_rev (win : Int) (l : List Al) : okG win l.reverse = okG win l := by unfold okG allV; simp
theorem errG_rev (l : List Al) : errG l.reverse = errG l := by unfold errG; simp

/-- Groups at a list whose length and error have names -/
theorem Groups_n {l : List Al} {k : Nat} {E : Int} (hk : l.length = k) (hE : errG l = E) (A : Option Addr) (c : Nat) (win : Int) (w : World) (hn : k ≤ 1000000) (hA : RowA w w.heap.size A l) :
    Calls Try.prog 30 #[.slice A k c, .int .i64 win] w fun e w' => Below w.heap.size w w' ∧
      ((okG win l = true ∧ ∃ A' c', e = .returned (.tuple #[.slice A' (gl k (col win l)).length c', .int .i64 0]) ∧ RowG w' 0 w'.heap.size A' (gl k (col win l))) ∨
       (okG win l = false ∧ e = .returned (.tuple #[.slice none 0 0, .int .i64 E]))) := by
  subst hk hE
  refine (Groups_u A c l win w hn hA).mono ?_
  rintro e w' ⟨hb, ⟨h, A', c', e1, hr⟩ | h⟩
  · exact ⟨hb, .inl ⟨h, A', c', e1, hr.wide (Nat.zero_le _) (Nat.le_refl _)⟩⟩
  · exact ⟨hb, .inr h⟩

/-- append of one alert, and where the new slice lies -/
theorem wp_app_al {ops : Array Oper} {rest : List Oper} {o : Oper} {a : Act} {Q : Exit → Act → World → Prop} {w : World} (hgd : o.guard = none) (s x : Operand)
    (ho : o.op = .call { callee := .builtin .append, args := #[s, x], argTypes := #[42, 42] })
    (base : Nat) (v : Value) (n : Nat) (xs : List Value) (hs : a.eval s = v) (hown : w.ownsRow base 52 5 v n xs)
    (b c : Nat) (y : Al) (t : TypeId) (hx : a.eval x = .slice (some ⟨b, 0, none⟩) 1 c) (hcell : w.heap[b]? = some (.cells #[.int .i64 y.t, .int .i64 y.c, .int .i64 y.f, .int .i64 y.v, .int .i64 y.a] t (0, 0)))
    (hn : n ≤ 1000000) (hbase : base ≤ w.heap.size)
    (h : ∀ v' w', w'.ownsRow base 52 5 v' (n + 1) (xs ++ acell y) → w.grownBy w' v.ownBlock → (v'.ownBlock = v.ownBlock ∨ v'.ownBlock = some w.heap.size) → wpList Try.prog ops Q rest (a.put o.dst v') w') : wpList Try.prog ops Q (o :: rest) a w := by
  obtain ⟨i0, hi, hz0, hz1, hz2⟩ := info_parts Try.info52
  refine wpList_append_own_at _ hgd s x 42 ho base 52 i0 _ 5 40 Try.underlying42 hi hz0 hz1 hz2 rfl (by decide) v n xs hs hown ⟨b, 0, none⟩ 1 c (acell y) hx rfl ?_ ?_ ?_ ?_ hbase ?_
  · exact World.news_of_block hcell
  · intro u hu; simp [acell] at hu; rcases hu with rfl | rfl | rfl | rfl | rfl <;> rfl
  · unfold maxLen; omega
  · omega
  · intro v' w' h1 h2 _ h4
    exact h v' w' h1 h2 h4
theorem own_rowA {w : World} {B : Nat} {v : Value} {n : Nat} {l : List Al} (h : w.ownsRow B 52 5 v n (alCells l)) : ∃ A c, v = .slice A l.length c ∧ RowA w w.heap.size A l := by
  have hn : n = l.length := by have := h.1; rw [alCells_length] at this; omega
  subst hn
  obtain ⟨A, c, rfl, hA⟩ := own_slice h
  refine ⟨A, c, rfl, ?_⟩
  by_cases hl : l = []
  · exact .inl hl
  · obtain ⟨g, rfl⟩ := hA (List.length_pos_iff.2 hl)
    have hlt := h.lt g rfl
    refine .inr ⟨g, 0, rfl, hlt.2, fun j x hj i hi => ?_⟩
    obtain ⟨hjl, rfl⟩ := List.getElem?_eq_some_iff.1 hj
    rw [Nat.zero_add, h.cellAt _ (by omega), alCells_at l j hjl i hi]
end Go.Proofs.Ytfddnmibjaibhaa
