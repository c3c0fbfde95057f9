/- Contracts: near, close, Close. -/
import Derived.Test.YtfddnmibjaibhaaM1
import Derived.Test.YtfddnmibjaibhaaS4
import Derived.BigRegion
namespace Go.Proofs.Ytfddnmibjaibhaa
open Go.RowKit

theorem rDistance_is {a b d : Int} (h : dist a b = d) (w : World) (h0 : 0 ≤ a) (h1 : a < 512) (h2 : 0 ≤ b) (h3 : b < 512) :
    Calls Try.prog 22 #[.int .i64 a, .int .i64 b] w fun e w' => e = .returned (.tuple #[.int .i64 d, .int .i64 0]) ∧ w = w' := by
  subst h; exact rDistance_ok a b w h0 h1 h2 h3

theorem parts (d f g a b win : Int) (Q : Prop) (q1 : ¬ d ≤ 1 → Q) (q2 : d ≤ 1 → f ≠ g → Q) (q3 : d ≤ 1 → f = g → ¬ a - b ≤ win → Q) (q4 : d ≤ 1 → f = g → a - b ≤ win → ¬ b - a ≤ win → Q) (q5 : d ≤ 1 → f = g → a - b ≤ win → b - a ≤ win → Q) : Q := by
  by_cases h1 : d ≤ 1
  · by_cases h2 : f = g
    · by_cases h3 : a - b ≤ win
      · by_cases h4 : b - a ≤ win
        · exact q5 h1 h2 h3 h4
        · exact q4 h1 h2 h3 h4
      · exact q3 h1 h2 h3
    · exact q2 h1 h2
  · exact q1 h1

set_option maxHeartbeats 1600000 in
set_option maxRecDepth 10000 in
theorem close_any (x y : Al) (win : Int) (w : World) (hx : isV x = true) (hy : isV y = true) :
    Calls Try.prog 35 #[x.val, y.val, .int .i64 win] w fun e w' => e = .returned (.bool (cl win x y)) ∧ Below w.heap.size w w' := by
  obtain ⟨t, c, f, v, a⟩ := x
  obtain ⟨t', c', g, v', b⟩ := y
  obtain ⟨t0, t1, -, -, -, -, -, -, a0, a1⟩ := isV_of.1 hx
  obtain ⟨s0, s1, -, -, -, -, -, -, b0, b1⟩ := isV_of.1 hy
  clear hx hy
  unfold cl Al.val
  dsimp only at t0 t1 a0 a1 s0 s1 b0 b1 ⊢
  obtain ⟨d, hd⟩ : ∃ d, dist t t' = d := ⟨_, rfl⟩
  rw [hd]
  have HD := hid hd
  clear hd
  obtain ⟨r, hr⟩ : ∃ r, decide (d ≤ 1 ∧ f = g ∧ a - b ≤ win ∧ b - a ≤ win) = r := ⟨_, rfl⟩
  rw [hr]
  have HR := hid hr
  clear hr
  refine parts d f g a b win _ ?_ ?_ ?_ ?_ ?_
  all_goals
    intros
    try subst g
    go_enter Try.func35, Try.ntmps35
    go_wp2_with fail
    refine (Distance_is HD.out _ t0 t1 s0 s1).mono ?_
    rintro e w1 ⟨rfl, hb1⟩
    have hc := bcell hb1
    have hz : w.heap.size + 1 < w1.heap.size := by have := hb1.size; simp at this; omega
    obtain ⟨hc1, hc2⟩ := hc
    go_wp2
    go_ret
    exact ⟨ret_bool (by rw [← HR.out, Bool.eq_iff_iff]; (try simp only [decide_eq_true_eq, true_and, Bool.false_eq_true, true_iff, false_iff]); omega), bl (ba (ba (Below.refl _ _) _) _) hb1⟩

set_option maxHeartbeats 1600000 in
set_option maxRecDepth 10000 in
theorem Close_any (x y : Al) (win : Int) (w : World) (hx : isV x = true) (hy : isV y = true) :
    Calls Try.prog 59 #[x.val, y.val, .int .i64 win] w fun e w' => e = .returned (.bool (cl win x y)) ∧ Below w.heap.size w w' := by
  obtain ⟨t, c, f, v, a⟩ := x
  obtain ⟨t', c', g, v', b⟩ := y
  obtain ⟨t0, t1, -, -, -, -, -, -, a0, a1⟩ := isV_of.1 hx
  obtain ⟨s0, s1, -, -, -, -, -, -, b0, b1⟩ := isV_of.1 hy
  clear hx hy
  unfold cl Al.val
  dsimp only at t0 t1 a0 a1 s0 s1 b0 b1 ⊢
  obtain ⟨d, hd⟩ : ∃ d, dist t t' = d := ⟨_, rfl⟩
  rw [hd]
  have HD := hid hd
  clear hd
  obtain ⟨r, hr⟩ : ∃ r, decide (d ≤ 1 ∧ f = g ∧ a - b ≤ win ∧ b - a ≤ win) = r := ⟨_, rfl⟩
  rw [hr]
  have HR := hid hr
  clear hr
  by_cases hfg : f = g
  · subst hfg
    refine parts d f f a b win _ ?_ (fun _ h => absurd rfl h) ?_ ?_ ?_
    all_goals
      intros
      go_enter Try.func59, Try.ntmps59
      go_wp2_with fail
      refine (rDistance_is HD.out _ t0 t1 s0 s1).mono ?_
      rintro e w1 ⟨rfl, rfl⟩
      go_wp2
      go_ret
      exact ⟨ret_bool (by rw [← HR.out, Bool.eq_iff_iff]; (try simp only [decide_eq_true_eq, true_and, Bool.false_eq_true, true_iff, false_iff]); omega), ba (ba (Below.refl _ _) _) _⟩
  · have eq : (f == g) = false := by simpa using hfg
    go_enter Try.func59, Try.ntmps59
    go_wp2_with fail
    refine (rDistance_is HD.out _ t0 t1 s0 s1).mono ?_
    rintro e w1 ⟨rfl, rfl⟩
    go_wp2
    go_ret
    exact ⟨ret_bool (by rw [← HR.out, Bool.eq_iff_iff]; (try simp only [decide_eq_true_eq, Bool.false_eq_true, false_iff]); omega), ba (ba (Below.refl _ _) _) _⟩

set_option maxHeartbeats 1600000 in
set_option maxRecDepth 10000 in
theorem near38_any (p : Nat) (x y : Al) (win : Int) (w : World) (hx : isV x = true) (hy : isV y = true) (hp : p < w.heap.size) (hc : w.cell? ⟨p, 0, none⟩ = some (.int .i64 win)) :
    Calls Try.prog 54 #[.pointer (some ⟨p, 0, none⟩), x.val, y.val] w fun e w' => e = .returned (.bool (cl win x y)) ∧ Below w.heap.size w w' := by
  obtain ⟨t, c, f, v, a⟩ := x
  obtain ⟨t', c', g, v', b⟩ := y
  obtain ⟨t0, t1, -, -, -, -, -, -, a0, a1⟩ := isV_of.1 hx
  obtain ⟨s0, s1, -, -, -, -, -, -, b0, b1⟩ := isV_of.1 hy
  clear hx hy
  unfold cl Al.val
  dsimp only at t0 t1 a0 a1 s0 s1 b0 b1 ⊢
  obtain ⟨d, hd⟩ : ∃ d, dist t t' = d := ⟨_, rfl⟩
  rw [hd]
  have HD := hid hd
  clear hd
  obtain ⟨r, hr⟩ : ∃ r, decide (d ≤ 1 ∧ f = g ∧ a - b ≤ win ∧ b - a ≤ win) = r := ⟨_, rfl⟩
  rw [hr]
  have HR := hid hr
  clear hr
  have htri : ∀ Q : Prop, (a < b → Q) → (a = b → Q) → (b < a → Q) → Q := fun Q h1 h2 h3 => by
    rcases Int.lt_trichotomy a b with h | h | h
    · exact h1 h
    · exact h2 h
    · exact h3 h
  refine parts d f g a b win _ ?_ ?_ ?_ ?_ ?_
  all_goals
    intros
    first | (have eqf : (f == g) = false := by simpa using (by assumption : f ≠ g)) | subst g | skip
    refine htri _ ?_ ?_ ?_
    all_goals
      intro hab
      clear htri
      try subst hab
    all_goals (try (exfalso; omega))
    all_goals
      go_enter Try.func54, Try.ntmps54
      go_wp2_with fail
      refine (Distance_is HD.out _ t0 t1 s0 s1).mono ?_
      rintro e w1 ⟨rfl, hb1⟩
      have hc1 : ∀ b o, b < w.heap.size + 1 + 1 → w1.cell? ⟨b, o, none⟩ = _ := fun b o h => hb1.cell (p := ⟨b, o, none⟩) (by simpa using h)
      have hz : w.heap.size + 1 < w1.heap.size := by have := hb1.size; simp at this; omega
      have HB := hid (bl (ba (ba (Below.refl w.heap.size w) _) _) hb1)
      have e0 : w1.cell? ⟨p, 0, none⟩ = some (.int .i64 win) := (Below.cell (p := ⟨p, 0, none⟩) HB.out hp).trans hc
      have g1 := hc1 w.heap.size 2 (by omega)
      have g2 := hc1 w.heap.size 4 (by omega)
      have g3 := hc1 (w.heap.size + 1) 2 (by omega)
      have g4 := hc1 (w.heap.size + 1) 4 (by omega)
      simp at g1 g2 g3 g4
      clear hc1 hb1 hc
      try have k1 : decide (d ≤ 1) = false := decide_eq_false (by omega)
      try have k2 : decide (a - b ≤ win) = false := decide_eq_false (by omega)
      try have k3 : decide (b - a ≤ win) = false := decide_eq_false (by omega)
      try have k4 : decide (0 ≤ win) = false := decide_eq_false (by omega)
      go_wp2_with fail
      go_quiet (fail)
      go_wp2
      go_ret
      exact ⟨ret_bool (by rw [← HR.out, Bool.eq_iff_iff]; (try simp only [decide_eq_true_eq, true_and, Bool.false_eq_true, true_iff, false_iff]); omega), by first | exact HB.out | exact bl HB.out (dN _ _)⟩
end Go.Proofs.Ytfddnmibjaibhaa
