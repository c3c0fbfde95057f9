/- Union-find: plain maths; the world's part that a call may turn; root. -/
import Derived.Test.YtfddnmibjaibhaaM2
import Derived.Deep.OwnRows
namespace Go.Proofs.Ytfddnmibjaibhaa
open Go.RowKit

/-- parents P, sizes S, the root of each (c), a measure that falls on the way up (d) -/
structure UF (n : Nat) (P S : Nat → Nat) (c d : Nat → Nat) : Prop where
  pb : ∀ i, i < n → P i < n
  cb : ∀ i, i < n → c i < n
  cc : ∀ i, i < n → c (c i) = c i
  cp : ∀ i, i < n → c (P i) = c i
  pr : ∀ i, i < n → (P i = i ↔ c i = i)
  dl : ∀ i, i < n → P i ≠ i → d (P i) < d i
  sz : ∀ i, i < n → c i = i → S i = (mem n c i).length

theorem UF.halve {n : Nat} {P S c d : Nat → Nat} (h : UF n P S c d) {i : Nat} (hi : i < n) (hp : P i ≠ i) : UF n (fun j => if j = i then P (P i) else P j) S c d := by
  have hpi := h.pb i hi
  have hd := h.dl i hi hp
  have hd2 : d (P (P i)) ≤ d (P i) := by
    by_cases e : P (P i) = P i
    · rw [e]; exact Nat.le_refl _
    · exact Nat.le_of_lt (h.dl _ hpi e)
  refine ⟨fun j hj => ?_, h.cb, h.cc, fun j hj => ?_, fun j hj => ?_, fun j hj => ?_, h.sz⟩
  · by_cases e : j = i
    · simp only [e, if_true]; exact h.pb _ hpi
    · simp only [e, if_false]; exact h.pb _ hj
  · by_cases e : j = i
    · simp only [e, if_true]; rw [h.cp _ hpi, h.cp _ hi]
    · simp only [e, if_false]; exact h.cp _ hj
  · by_cases e : j = i
    · subst e
      simp only [if_true]
      constructor
      · intro hh; rw [hh] at hd2; omega
      · intro hh; exact absurd ((h.pr _ hj).2 hh) hp
    · simp only [e, if_false]; exact h.pr _ hj
  · by_cases e : j = i
    · subst e; simp only [if_true]; intro _; omega
    · simp only [e, if_false]; exact h.dl _ hj

theorem UF.root {n : Nat} {P S c d : Nat → Nat} (h : UF n P S c d) (i : Nat) (hi : i < n) : c i < n ∧ P (c i) = c i := ⟨h.cb i hi, (h.pr _ (h.cb i hi)).2 (h.cc i hi)⟩

/-- a new one by itself -/
theorem UF.add {n : Nat} {P S c d : Nat → Nat} (h : UF n P S c d) : UF (n + 1) (fun j => if j = n then n else P j) (fun j => if j = n then 1 else S j) (fun j => if j = n then n else c j) d := by
  refine ⟨fun j hj => ?_, fun j hj => ?_, fun j hj => ?_, fun j hj => ?_, fun j hj => ?_, fun j hj => ?_, fun j hj => ?_⟩
  · by_cases e : j = n
    · simp [e]
    · simp only [e, if_false]; have := h.pb j (by omega); omega
  · by_cases e : j = n
    · simp [e]
    · simp only [e, if_false]; have := h.cb j (by omega); omega
  · by_cases e : j = n
    · simp [e]
    · have h1 := h.cb j (by omega)
      have : ¬ c j = n := by omega
      simp only [e, if_false, this]; exact h.cc j (by omega)
  · by_cases e : j = n
    · simp [e]
    · have h1 := h.pb j (by omega)
      have : ¬ P j = n := by omega
      simp only [e, if_false, this]; exact h.cp j (by omega)
  · by_cases e : j = n
    · simp [e]
    · simp only [e, if_false]; exact h.pr j (by omega)
  · by_cases e : j = n
    · simp [e]
    · simp only [e, if_false]; exact h.dl j (by omega)
  · by_cases e : j = n
    · subst e
      simp only [if_true]
      intro _
      rw [mem_succ]
      have : mem j (fun k => if k = j then j else c k) j = [] := by
        rw [List.eq_nil_iff_forall_not_mem]
        intro k hk
        obtain ⟨h1, h2⟩ := mem_mem.1 hk
        rw [if_neg (by omega)] at h2
        have := h.cb k h1; omega
      simp [this]
    · simp only [e, if_false]
      intro hc
      rw [h.sz j (by omega) hc, mem_succ, if_neg (by simp; omega), List.append_nil]
      unfold mem
      congr 1
      refine List.filter_congr fun k hk => ?_
      have : ¬ k = n := by have : k < n := by simpa using hk
                           omega
      simp [this]

theorem mem_length_split {n : Nat} {c : Nat → Nat} {a b : Nat} (hab : a ≠ b) : (mem n (fun j => if c j = b then a else c j) a).length = (mem n c a).length + (mem n c b).length := by
  induction n with
  | zero => simp [mem]
  | succ n ih =>
    rw [mem_succ, mem_succ, mem_succ, List.length_append, List.length_append, List.length_append, ih]
    by_cases e : c n = b
    · have : ¬ c n = a := by omega
      simp [e, Ne.symm hab]; omega
    · by_cases e2 : c n = a
      · simp [e2, hab]; omega
      · simp [e, e2]

/-- the group of b hung under a -/
theorem UF.join {n : Nat} {P S c d : Nat → Nat} (h : UF n P S c d) {a b : Nat} (ha : a < n) (hb : b < n) (ra : c a = a) (rb : c b = b) (hab : a ≠ b) :
    UF n (fun j => if j = b then a else P j) (fun j => if j = a then S a + S b else S j) (fun j => if c j = b then a else c j) (fun j => if c j = b then d j + d a + 1 else d j) := by
  have hpb := (h.pr b hb).2 rb
  refine ⟨fun j hj => ?_, fun j hj => ?_, fun j hj => ?_, fun j hj => ?_, fun j hj => ?_, fun j hj => ?_, fun j hj => ?_⟩
  · by_cases e : j = b
    · simp only [e, if_true]; exact ha
    · simp only [e, if_false]; exact h.pb _ hj
  · by_cases e : c j = b
    · simp only [e, if_true]; exact ha
    · simp only [e, if_false]; exact h.cb _ hj
  · by_cases e : c j = b
    · simp only [e, if_true, ra, hab, if_false]
    · simp only [e, if_false, h.cc j hj]
  · by_cases e : j = b
    · subst e
      simp only [if_true, ra, rb, hab, if_false]
    · simp only [e, if_false, h.cp j hj]
  · by_cases e : j = b
    · subst e
      simp only [if_true, rb]
    · simp only [e, if_false]
      by_cases e2 : c j = b
      · simp only [e2, if_true]
        constructor
        · intro hh
          have := (h.pr j hj).1 hh
          omega
        · intro hh
          rw [← hh, ra] at e2; exact absurd e2 hab
      · simp only [e2, if_false]; exact h.pr j hj
  · by_cases e : j = b
    · subst e
      simp only [if_true, ra, rb, hab, if_false]
      intro _; omega
    · simp only [e, if_false, h.cp j hj]
      intro hp
      have := h.dl j hj hp
      by_cases e2 : c j = b
      · simp only [e2, if_true]; omega
      · simp only [e2, if_false]; exact this
  · intro hc
    by_cases e : j = a
    · subst e
      simp only [if_true]
      rw [mem_length_split hab, h.sz _ ha ra, h.sz _ hb rb]
    · simp only [e, if_false]
      by_cases e2 : c j = b
      · simp only [e2, if_true] at hc; exact absurd hc.symm e
      · simp only [e2, if_false] at hc
        rw [h.sz j hj hc]
        unfold mem
        congr 1
        refine List.filter_congr fun k hk => ?_
        rw [Bool.eq_iff_iff]
        simp only [beq_iff_eq]
        by_cases e3 : c k = b
        · simp only [e3, if_true]
          constructor
          · intro hh; rw [← hh, rb] at e2; exact absurd trivial (by simp at e2)
          · intro hh; exact absurd hh.symm e
        · simp only [e3, if_false]

/-- what the join makes of 'the same group' -/
theorem join_same {c : Nat → Nat} {a b x y : Nat} (_hab : a ≠ b) : ((if c x = b then a else c x) = (if c y = b then a else c y)) ↔ (c x = c y ∨ (c x = a ∧ c y = b) ∨ (c x = b ∧ c y = a)) := by
  split <;> split <;> constructor <;> intro h <;> omega
end Go.Proofs.Ytfddnmibjaibhaa
