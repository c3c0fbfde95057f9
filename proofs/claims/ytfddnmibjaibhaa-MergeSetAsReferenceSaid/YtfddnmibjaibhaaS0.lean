/- Plain maths of the sky: the distance of tiles, counts of near tiles. -/
namespace Go.Proofs.Ytfddnmibjaibhaa

def dist (a b : Int) : Int := max (min (max (a % 32 - b % 32) (b % 32 - a % 32)) (32 - max (a % 32 - b % 32) (b % 32 - a % 32))) (max (a / 32 - b / 32) (b / 32 - a / 32))

def cd (a b : Nat) : Nat := min ((a - b) + (b - a)) (32 - ((a - b) + (b - a)))
def bd (a b : Nat) : Nat := (a - b) + (b - a)

theorem dist_le (a t : Nat) (r : Nat) (ha : a < 512) (ht : t < 512) : (dist (a : Int) (t : Int) ≤ (r : Int)) ↔ (cd (a % 32) (t % 32) ≤ r ∧ bd (a / 32) (t / 32) ≤ r) := by
  unfold dist cd bd; omega

def cnt (p : Nat → Bool) (n : Nat) : Nat := ((List.range n).filter p).length

theorem cnt_succ (p : Nat → Bool) (n : Nat) : cnt p (n + 1) = cnt p n + if p n then 1 else 0 := by
  unfold cnt
  rw [List.range_succ, List.filter_append, List.length_append]
  by_cases h : p n <;> simp [h]

theorem cnt_zero (p : Nat → Bool) : cnt p 0 = 0 := rfl

theorem cnt_add (p : Nat → Bool) (m n : Nat) : cnt p (m + n) = cnt p m + cnt (fun i => p (m + i)) n := by
  induction n with
  | zero => simp [cnt_zero]
  | succ n ih => rw [← Nat.add_assoc, cnt_succ, ih, cnt_succ]; omega

theorem cnt_congr {p q : Nat → Bool} {n : Nat} (h : ∀ i, i < n → p i = q i) : cnt p n = cnt q n := by
  induction n with
  | zero => rfl
  | succ n ih => rw [cnt_succ, cnt_succ, ih (fun i hi => h i (by omega)), h n (by omega)]

theorem cnt_false {p : Nat → Bool} {n : Nat} (h : ∀ i, i < n → p i = false) : cnt p n = 0 := by
  induction n with
  | zero => rfl
  | succ n ih => rw [cnt_succ, ih (fun i hi => h i (by omega)), h n (by omega)]; rfl

theorem cnt_prod (p q : Nat → Bool) (n : Nat) : cnt (fun i => p (i / 32) && q (i % 32)) (32 * n) = cnt p n * cnt q 32 := by
  induction n with
  | zero => simp [cnt_zero]
  | succ n ih =>
    rw [Nat.mul_succ, cnt_add, ih, show cnt p (n + 1) = cnt p n + (if p n then 1 else 0) from cnt_succ p n, Nat.add_mul]
    congr 1
    cases hp : p n with
    | true =>
      rw [cnt_congr (q := q)]
      · simp
      · intro i hi
        have h1 : (32 * n + i) / 32 = n := by omega
        have h2 : (32 * n + i) % 32 = i := by omega
        simp [h1, h2, hp]
    | false =>
      rw [cnt_false]
      · simp
      · intro i hi
        have h1 : (32 * n + i) / 32 = n := by omega
        simp [h1, hp]

theorem cols : ∀ c, c < 32 → ∀ r, r < 32 → cnt (fun i => decide (cd c i ≤ r)) 32 = min (2 * r + 1) 32 := by decide +kernel
theorem bands : ∀ b, b < 16 → ∀ r, r < 32 → cnt (fun i => decide (bd b i ≤ r)) 16 = min (b + r) 15 - (b - r) + 1 := by decide +kernel

def near (a r : Int) (k : Nat) : List Nat := (List.range k).filter (fun i => decide (dist a (i : Int) ≤ r))

theorem near_cnt (a r : Nat) (ha : a < 512) (N : Nat) (hN : N ≤ 512) : (near a r N).length = cnt (fun i => decide (bd (a / 32) (i / 32) ≤ r) && decide (cd (a % 32) (i % 32) ≤ r)) N := by
  unfold near
  refine cnt_congr (p := fun i : Nat => decide (dist (a : Int) (i : Int) ≤ (r : Int))) ?_
  intro i hi
  have := dist_le a i r ha (by omega)
  rw [Bool.eq_iff_iff]
  simp [this, and_comm]

theorem near_length (a r : Nat) (ha : a < 512) (hr : r < 32) : (near a r 512).length = min (2 * r + 1) 32 * (min (a / 32 + r) 15 - (a / 32 - r) + 1) := by
  have h := cnt_prod (fun i => decide (bd (a / 32) i ≤ r)) (fun i => decide (cd (a % 32) i ≤ r)) 16
  rw [cols _ (by omega) _ hr, bands _ (by omega) _ hr] at h
  rw [Nat.mul_comm, ← h]
  exact near_cnt a r ha 512 (Nat.le_refl _)

theorem dist_symm (a b : Int) : dist a b = dist b a := by unfold dist; omega
/-- the distance of two columns -/
def cdI (x y : Int) : Int := min (max (x - y) (y - x)) (32 - max (x - y) (y - x))
def bdI (x y : Int) : Int := max (x - y) (y - x)
theorem dist_eq (a b : Int) : dist a b = max (cdI (a % 32) (b % 32)) (bdI (a / 32) (b / 32)) := rfl
theorem cdI_tri (x y z : Int) (h1 : 0 ≤ x) (h2 : x < 32) (h3 : 0 ≤ y) (h4 : y < 32) (h5 : 0 ≤ z) (h6 : z < 32) : cdI x y ≤ cdI x z + cdI z y := by
  unfold cdI
  by_cases a : x ≤ y <;> by_cases b : x ≤ z <;> by_cases c : z ≤ y <;> omega
theorem bdI_tri (x y z : Int) : bdI x y ≤ bdI x z + bdI z y := by unfold bdI; omega
theorem cdI_bd (x y : Int) (h1 : 0 ≤ x) (h2 : x < 32) (h3 : 0 ≤ y) (h4 : y < 32) : 0 ≤ cdI x y ∧ cdI x y ≤ 16 ∧ (cdI x y = 0 ↔ x = y) := by
  unfold cdI
  by_cases a : x ≤ y <;> omega
theorem bdI_bd (x y : Int) (h1 : 0 ≤ x) (h2 : x < 16) (h3 : 0 ≤ y) (h4 : y < 16) : 0 ≤ bdI x y ∧ bdI x y ≤ 15 := by unfold bdI; omega
theorem bdI_zero (x y : Int) : 0 ≤ bdI x y ∧ (bdI x y = 0 ↔ x = y) := by unfold bdI; omega
theorem dist_tri (a b c : Int) : dist a b ≤ dist a c + dist c b := by
  simp only [dist_eq]
  have := cdI_tri (a % 32) (b % 32) (c % 32) (by omega) (by omega) (by omega) (by omega) (by omega) (by omega)
  have := bdI_tri (a / 32) (b / 32) (c / 32)
  omega
theorem dist_zero (a b : Int) : dist a b = 0 ↔ a = b := by
  simp only [dist_eq]
  have := cdI_bd (a % 32) (b % 32) (by omega) (by omega) (by omega) (by omega)
  have := bdI_zero (a / 32) (b / 32)
  omega
theorem dist_bd (a b : Int) (h0 : 0 ≤ a) (h1 : a < 512) (h2 : 0 ≤ b) (h3 : b < 512) : 0 ≤ dist a b ∧ dist a b ≤ 16 := by
  simp only [dist_eq]
  have := cdI_bd (a % 32) (b % 32) (by omega) (by omega) (by omega) (by omega)
  have := bdI_bd (a / 32) (b / 32) (by omega) (by omega) (by omega) (by omega)
  omega
theorem cdI_moved (x y k : Int) (h1 : 0 ≤ x) (h2 : x < 32) (h3 : 0 ≤ y) (h4 : y < 32) : cdI ((x + k) % 32) ((y + k) % 32) = cdI x y := by
  unfold cdI
  by_cases a : x ≤ y
  · have : (y + k) % 32 = (x + k) % 32 + (y - x) ∨ (y + k) % 32 = (x + k) % 32 + (y - x) - 32 := by omega
    omega
  · have : (x + k) % 32 = (y + k) % 32 + (x - y) ∨ (x + k) % 32 = (y + k) % 32 + (x - y) - 32 := by omega
    omega
theorem dist_moved (a b k : Int) : dist (a / 32 * 32 + (a % 32 + k) % 32) (b / 32 * 32 + (b % 32 + k) % 32) = dist a b := by
  simp only [dist_eq]
  have e1 : (a / 32 * 32 + (a % 32 + k) % 32) % 32 = (a % 32 + k) % 32 := by omega
  have e2 : (b / 32 * 32 + (b % 32 + k) % 32) % 32 = (b % 32 + k) % 32 := by omega
  have e3 : (a / 32 * 32 + (a % 32 + k) % 32) / 32 = a / 32 := by omega
  have e4 : (b / 32 * 32 + (b % 32 + k) % 32) / 32 = b / 32 := by omega
  rw [e1, e2, e3, e4, cdI_moved _ _ _ (by omega) (by omega) (by omega) (by omega)]

/-- one step of the column towards another -/
def cstep (x y : Int) : Int := if x = y then x else if (0 < y - x ∧ y - x ≤ 16) ∨ y - x < -16 then (x + 1) % 32 else (x - 1) % 32
def bstep (x y : Int) : Int := if x = y then x else if x < y then x + 1 else x - 1
theorem cstep_ok (x y : Int) (h1 : 0 ≤ x) (h2 : x < 32) (h3 : 0 ≤ y) (h4 : y < 32) : 0 ≤ cstep x y ∧ cstep x y < 32 ∧ cdI x (cstep x y) ≤ 1 ∧ (cdI (cstep x y) y = cdI x y - 1 ∨ x = y ∧ cstep x y = y) := by
  unfold cstep
  split
  · unfold cdI; omega
  · split
    · by_cases a : x = 31
      · subst a; unfold cdI; omega
      · have : (x + 1) % 32 = x + 1 := by omega
        rw [this]; unfold cdI; omega
    · by_cases a : x = 0
      · subst a; unfold cdI; omega
      · have : (x - 1) % 32 = x - 1 := by omega
        rw [this]; unfold cdI; omega
theorem bstep_ok (x y : Int) (h1 : 0 ≤ x) (h2 : x < 16) (h3 : 0 ≤ y) (h4 : y < 16) : 0 ≤ bstep x y ∧ bstep x y < 16 ∧ bdI x (bstep x y) ≤ 1 ∧ (bdI (bstep x y) y = bdI x y - 1 ∨ x = y ∧ bstep x y = y) := by
  unfold bstep bdI; omega
/-- a tile one step nearer -/
theorem step_ok (a b : Int) (h0 : 0 ≤ a) (h1 : a < 512) (h2 : 0 ≤ b) (h3 : b < 512) (hn : 0 < dist a b) : ∃ c, 0 ≤ c ∧ c < 512 ∧ dist a c ≤ 1 ∧ dist c b = dist a b - 1 := by
  have hc := cstep_ok (a % 32) (b % 32) (by omega) (by omega) (by omega) (by omega)
  have hb := bstep_ok (a / 32) (b / 32) (by omega) (by omega) (by omega) (by omega)
  have z1 := cdI_bd (a % 32) (b % 32) (by omega) (by omega) (by omega) (by omega)
  have z2 := bdI_zero (a / 32) (b / 32)
  have z3 := (cdI_bd (b % 32) (b % 32) (by omega) (by omega) (by omega) (by omega)).2.2.2 rfl
  have z4 := (bdI_zero (b / 32) (b / 32)).2.2 rfl
  refine ⟨bstep (a / 32) (b / 32) * 32 + cstep (a % 32) (b % 32), by omega, by omega, ?_, ?_⟩
  all_goals
    simp only [dist_eq] at hn ⊢
    have e1 : (bstep (a / 32) (b / 32) * 32 + cstep (a % 32) (b % 32)) % 32 = cstep (a % 32) (b % 32) := by omega
    have e2 : (bstep (a / 32) (b / 32) * 32 + cstep (a % 32) (b % 32)) / 32 = bstep (a / 32) (b / 32) := by omega
    rw [e1, e2]
  · omega
  · obtain ⟨c1, c2, c3, c4⟩ := hc
    obtain ⟨b1, b2, b3, b4⟩ := hb
    have c6 : cdI (cstep (a % 32) (b % 32)) (b % 32) = cdI (a % 32) (b % 32) - 1 ∨ cdI (a % 32) (b % 32) = 0 ∧ cdI (cstep (a % 32) (b % 32)) (b % 32) = 0 := by
      rcases c4 with c4 | ⟨c4, c5⟩
      · exact Or.inl c4
      · exact Or.inr ⟨by rw [c4]; exact z3, by rw [c5]; exact z3⟩
    have b6 : bdI (bstep (a / 32) (b / 32)) (b / 32) = bdI (a / 32) (b / 32) - 1 ∨ bdI (a / 32) (b / 32) = 0 ∧ bdI (bstep (a / 32) (b / 32)) (b / 32) = 0 := by
      rcases b4 with b4 | ⟨b4, b5⟩
      · exact Or.inl b4
      · exact Or.inr ⟨by rw [b4]; exact z4, by rw [b5]; exact z4⟩
    clear c4 b4
    omega
/-- no tile is nearer by more than a step -/
theorem step_least (a b c : Int) (h : dist a c ≤ 1) : dist a b - 1 ≤ dist c b := by
  have := dist_tri a b c; omega
end Go.Proofs.Ytfddnmibjaibhaa
