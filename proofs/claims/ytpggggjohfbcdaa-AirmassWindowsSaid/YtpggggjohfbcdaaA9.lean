/- Plain laws of windows: they are in order, hold just the slots that are high enough, and nest. -/
import Derived.Test.YtpggggjohfbcdaaA8
namespace Go.Proofs.Ytpggggjohfbcdaa

/-- what holds of the windows after k slots -/
structure WinInv (least s t night : Int) (k : Nat) (l : List (Int × Int)) : Prop where
  bd : ∀ p ∈ l, 0 ≤ p.1 ∧ p.1 ≤ p.2 ∧ p.2 ≤ (k : Int) - 1
  ord : l.Pairwise fun p q => p.2 + 1 < q.1
  has : ∀ j : Nat, j < k → ((∃ p ∈ l, p.1 ≤ (j : Int) ∧ (j : Int) ≤ p.2) ↔ least ≤ ht s t (96 * night + (j : Int)))

theorem fw_inv (least s t night : Int) (k : Nat) (hk : k ≤ 96) : WinInv least s t night k (fw least s t night k) := by
  induction k with
  | zero => exact ⟨by simp [fw, finW, stW, upto], by simp [fw, finW, stW, upto], fun j hj => by omega⟩
  | succ k ih =>
    obtain ⟨h1, h2, h3⟩ := ih (by omega)
    by_cases hd : ht s t (96 * night + (k : Int)) < least
    · rw [fw_low _ _ _ _ _ (by omega) hd]
      refine ⟨fun p hp => by have := h1 p hp; omega, h2, fun j hj => ?_⟩
      by_cases hjk : j = k
      · subst hjk
        constructor
        · rintro ⟨p, hp, _, hp2⟩; have := h1 p hp; omega
        · intro h; omega
      · exact h3 j (by omega)
    · by_cases hf : 0 ≤ (stW least (upto s t night k)).2
      · obtain ⟨o, f, e1, e2⟩ := fw_more least s t night k (by omega) hd hf
        rw [e1] at h1 h2 h3
        rw [e2]
        have hf1 := h1 (f, (k : Int) - 1) (by simp)
        simp only at hf1
        rw [List.pairwise_append] at h2
        refine ⟨?_, ?_, ?_⟩
        · intro p hp
          rw [List.mem_append] at hp
          rcases hp with hp | hp
          · have := h1 p (by simp [hp]); omega
          · have : p = (f, (k : Int)) := by simpa using hp
            subst this; simp only; omega
        · rw [List.pairwise_append]
          refine ⟨h2.1, by simp, fun p hp q hq => ?_⟩
          have : q = (f, (k : Int)) := by simpa using hq
          subst this
          have := h2.2.2 p hp (f, (k : Int) - 1) (by simp)
          exact this
        · intro j hj
          by_cases hjk : j = k
          · subst hjk
            constructor
            · intro _; omega
            · intro _; exact ⟨(f, (j : Int)), by simp, by simp only; omega, by simp only; omega⟩
          · rw [← h3 j (by omega)]
            constructor
            · rintro ⟨p, hp, hp1, hp2⟩
              rw [List.mem_append] at hp
              rcases hp with hp | hp
              · exact ⟨p, by simp [hp], hp1, hp2⟩
              · have : p = (f, (k : Int)) := by simpa using hp
                subst this
                exact ⟨(f, (k : Int) - 1), by simp, hp1, by simp only; omega⟩
            · rintro ⟨p, hp, hp1, hp2⟩
              rw [List.mem_append] at hp
              rcases hp with hp | hp
              · exact ⟨p, by simp [hp], hp1, hp2⟩
              · have : p = (f, (k : Int) - 1) := by simpa using hp
                subst this
                exact ⟨(f, (k : Int)), by simp, hp1, by simp only at hp2 ⊢; omega⟩
      · obtain ⟨e1, e2⟩ := fw_new least s t night k (by omega) hd (by omega)
        rw [e2]
        refine ⟨?_, ?_, ?_⟩
        · intro p hp
          rw [List.mem_append] at hp
          rcases hp with hp | hp
          · have := h1 p hp; omega
          · have : p = ((k : Int), (k : Int)) := by simpa using hp
            subst this; simp only; omega
        · rw [List.pairwise_append]
          refine ⟨h2, by simp, fun p hp q hq => ?_⟩
          have : q = ((k : Int), (k : Int)) := by simpa using hq
          subst this
          have := e1 p hp
          simp only; omega
        · intro j hj
          by_cases hjk : j = k
          · subst hjk
            constructor
            · intro _; omega
            · intro _; exact ⟨((j : Int), (j : Int)), by simp, by simp only; omega, by simp only; omega⟩
          · rw [← h3 j (by omega)]
            constructor
            · rintro ⟨p, hp, hp1, hp2⟩
              rw [List.mem_append] at hp
              rcases hp with hp | hp
              · exact ⟨p, hp, hp1, hp2⟩
              · have : p = ((k : Int), (k : Int)) := by simpa using hp
                subst this
                simp only at hp1 hp2; omega
            · rintro ⟨p, hp, hp1, hp2⟩
              exact ⟨p, by simp [hp], hp1, hp2⟩

theorem winL_inv (least s t night : Int) : WinInv least s t night 96 (winL least s t night) := fw_inv least s t night 96 (Nat.le_refl _)

theorem winL_any (least s t night : Int) (j : Nat) (hj : j < 96) : ((winL least s t night).any fun p => decide (p.1 ≤ (j : Int)) && decide ((j : Int) ≤ p.2)) = decide (least ≤ ht s t (96 * night + (j : Int))) := by
  rw [Bool.eq_iff_iff]
  simp only [List.any_eq_true, Bool.and_eq_true, decide_eq_true_eq]
  exact (winL_inv least s t night).has j hj

/-- two windows of one list: one and the same, or apart -/
theorem apart {l : List (Int × Int)} (h : l.Pairwise fun p q => p.2 + 1 < q.1) {p q : Int × Int} (hp : p ∈ l) (hq : q ∈ l) : p = q ∨ p.2 + 1 < q.1 ∨ q.2 + 1 < p.1 := by
  obtain ⟨i, hi, rfl⟩ := List.getElem_of_mem hp
  obtain ⟨j, hj, rfl⟩ := List.getElem_of_mem hq
  rw [List.pairwise_iff_getElem] at h
  rcases Nat.lt_trichotomy i j with e | e | e
  · exact .inr (.inl (h i j hi hj e))
  · subst e; exact .inl rfl
  · exact .inr (.inr (h j i hj hi e))

theorem winL_within (lo hi s t night : Int) (h : lo ≤ hi) (p : Int × Int) (hp : p ∈ winL hi s t night) : ∃ q ∈ winL lo s t night, q.1 ≤ p.1 ∧ p.2 ≤ q.2 := by
  have HI := winL_inv hi s t night
  have LO := winL_inv lo s t night
  have bp := HI.bd p hp
  have cov : ∀ j : Nat, p.1 ≤ (j : Int) → (j : Int) ≤ p.2 → ∃ q ∈ winL lo s t night, q.1 ≤ (j : Int) ∧ (j : Int) ≤ q.2 := by
    intro j h1 h2
    have := (HI.has j (by omega)).1 ⟨p, hp, h1, h2⟩
    exact (LO.has j (by omega)).2 (by omega)
  obtain ⟨q, hq, q1, q2⟩ := cov p.1.toNat (by omega) (by omega)
  rw [Int.toNat_of_nonneg bp.1] at q1 q2
  refine ⟨q, hq, q1, ?_⟩
  have step : ∀ d : Nat, p.1 + (d : Int) ≤ p.2 → p.1 + (d : Int) ≤ q.2 := by
    intro d
    induction d with
    | zero => intro _; simpa using q2
    | succ d ih =>
      intro hd
      have hd' := ih (by omega)
      obtain ⟨r, hr, r1, r2⟩ := cov (p.1 + ((d + 1 : Nat) : Int)).toNat (by omega) (by omega)
      rw [Int.toNat_of_nonneg (by omega)] at r1 r2
      rcases apart LO.ord hq hr with e | e | e
      · rw [e]; exact r2
      · omega
      · omega
  have := step (p.2 - p.1).toNat (by omega)
  omega
end Go.Proofs.Ytpggggjohfbcdaa
