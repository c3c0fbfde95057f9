/- Contracts of the small functions of merge and its reference. -/
import Derived.Test.YtfddnmibjaibhaaM0
import Derived.Test.YtfddnmibjaibhaaS3
namespace Go.Proofs.Ytfddnmibjaibhaa
open Go.RowKit

structure Al where
  t : Int
  c : Int
  f : Int
  v : Int
  a : Int
  deriving DecidableEq

def Al.val (x : Al) : Value := .agg #[.int .i64 x.t, .int .i64 x.c, .int .i64 x.f, .int .i64 x.v, .int .i64 x.a]
def isM (n : Int) : Bool := decide (0 ≤ n) && decide (n ≤ 38399)
theorem isM_of {n : Int} : isM n = true ↔ (0 ≤ n ∧ n ≤ 38399) := by unfold isM; simp
theorem isM_not {n : Int} : isM n = false ↔ ¬ (0 ≤ n ∧ n ≤ 38399) := by rw [← isM_of]; simp
def isV (x : Al) : Bool := isT x.t && decide (0 ≤ x.c ∧ x.c < 4 ∧ 0 ≤ x.f ∧ x.f < 8 ∧ 0 ≤ x.v ∧ x.v ≤ 65535) && isM x.a
theorem isV_of {x : Al} : isV x = true ↔ (0 ≤ x.t ∧ x.t < 512 ∧ 0 ≤ x.c ∧ x.c < 4 ∧ 0 ≤ x.f ∧ x.f < 8 ∧ 0 ≤ x.v ∧ x.v ≤ 65535 ∧ 0 ≤ x.a ∧ x.a ≤ 38399) := by
  unfold isV; simp only [Bool.and_eq_true, isT_of, isM_of, decide_eq_true_eq]; omega
theorem isV_not {x : Al} : isV x = false ↔ ¬ (0 ≤ x.t ∧ x.t < 512 ∧ 0 ≤ x.c ∧ x.c < 4 ∧ 0 ≤ x.f ∧ x.f < 8 ∧ 0 ≤ x.v ∧ x.v ≤ 65535 ∧ 0 ≤ x.a ∧ x.a ≤ 38399) := by rw [← isV_of]; simp
/-- are two alerts close? -/
def cl (win : Int) (x y : Al) : Bool := decide (dist x.t y.t ≤ 1 ∧ x.f = y.f ∧ x.a - y.a ≤ win ∧ y.a - x.a ≤ win)
theorem cl_symm (win : Int) (x y : Al) : cl win x y = cl win y x := by
  unfold cl; rw [dist_symm, Bool.eq_iff_iff]; simp only [decide_eq_true_eq]; omega

set_option maxHeartbeats 800000 in
theorem moment_any (n : Int) (w : World) :
    Calls Try.prog 52 #[.int .i64 n] w fun e w' => e = .returned (.bool (isM n)) ∧ w = w' := by
  by_cases a : 0 ≤ n
  · by_cases b : n ≤ 38399
    all_goals
      go_enter Try.func52, Try.ntmps52
      go_wp2
      go_ret
      exact ⟨ret_bool (by simp [isM, a, b]), rfl⟩
  · go_enter Try.func52, Try.ntmps52
    go_wp2
    go_ret
    exact ⟨ret_bool (isM_not.2 (by omega)).symm, rfl⟩
set_option maxHeartbeats 800000 in
theorem rmoment_any (n : Int) (w : World) :
    Calls Try.prog 58 #[.int .i64 n] w fun e w' => e = .returned (.bool (isM n)) ∧ w = w' := by
  by_cases a : 0 ≤ n
  · by_cases b : n ≤ 38399
    all_goals
      go_enter Try.func58, Try.ntmps58
      go_wp2
      go_ret
      exact ⟨ret_bool (by simp [isM, a, b]), rfl⟩
  · go_enter Try.func58, Try.ntmps58
    go_wp2
    go_ret
    exact ⟨ret_bool (isM_not.2 (by omega)).symm, rfl⟩

set_option maxHeartbeats 1600000 in
set_option maxRecDepth 10000 in
theorem valid38_any (x : Al) (w : World) :
    Calls Try.prog 53 #[x.val] w fun e w' => e = .returned (.bool (isV x)) ∧ Below w.heap.size w w' := by
  obtain ⟨t, c, f, v, a⟩ := x
  have hv := @isV_of ⟨t, c, f, v, a⟩
  have hn := @isV_not ⟨t, c, f, v, a⟩
  dsimp only at hv hn
  generalize isV ⟨t, c, f, v, a⟩ = V at hv hn
  have HV := hid hv
  have HN := hid hn
  clear hv hn
  unfold Al.val
  dsimp only
  by_cases h1 : 0 ≤ t
  · by_cases h2 : t < 512
    · by_cases h3 : 0 ≤ c
      · by_cases h4 : c < 4
        · by_cases h5 : 0 ≤ f
          · by_cases h6 : f < 8
            · by_cases h7 : 0 ≤ v
              · by_cases h8 : v ≤ 65535
                · obtain ⟨m, hm⟩ : ∃ m, isM a = m := ⟨_, rfl⟩
                  have HM := hid hm
                  clear hm
                  go_enter Try.func53, Try.ntmps53
                  go_wp2_with fail
                  refine (moment_any _ _).mono ?_
                  rintro e w' ⟨rfl, rfl⟩
                  rw [HM.out]
                  go_wp2
                  go_ret
                  refine ⟨ret_bool ?_, (Below.refl _ _).alloc (Nat.le_refl _) _⟩
                  cases m
                  · exact (HN.out.2 (by have := isM_not.1 HM.out; omega)).symm
                  · exact (HV.out.2 (by have := isM_of.1 HM.out; omega)).symm
                · go_enter Try.func53, Try.ntmps53
                  go_wp2
                  go_ret
                  exact ⟨ret_bool (HN.out.2 (by omega)).symm, (Below.refl _ _).alloc (Nat.le_refl _) _⟩
              · go_enter Try.func53, Try.ntmps53
                go_wp2
                go_ret
                exact ⟨ret_bool (HN.out.2 (by omega)).symm, (Below.refl _ _).alloc (Nat.le_refl _) _⟩
            · go_enter Try.func53, Try.ntmps53
              go_wp2
              go_ret
              exact ⟨ret_bool (HN.out.2 (by omega)).symm, (Below.refl _ _).alloc (Nat.le_refl _) _⟩
          · go_enter Try.func53, Try.ntmps53
            go_wp2
            go_ret
            exact ⟨ret_bool (HN.out.2 (by omega)).symm, (Below.refl _ _).alloc (Nat.le_refl _) _⟩
        · go_enter Try.func53, Try.ntmps53
          go_wp2
          go_ret
          exact ⟨ret_bool (HN.out.2 (by omega)).symm, (Below.refl _ _).alloc (Nat.le_refl _) _⟩
      · go_enter Try.func53, Try.ntmps53
        go_wp2
        go_ret
        exact ⟨ret_bool (HN.out.2 (by omega)).symm, (Below.refl _ _).alloc (Nat.le_refl _) _⟩
    · go_enter Try.func53, Try.ntmps53
      go_wp2
      go_ret
      exact ⟨ret_bool (HN.out.2 (by omega)).symm, (Below.refl _ _).alloc (Nat.le_refl _) _⟩
  · go_enter Try.func53, Try.ntmps53
    go_wp2
    go_ret
    exact ⟨ret_bool (HN.out.2 (by omega)).symm, (Below.refl _ _).alloc (Nat.le_refl _) _⟩

set_option maxHeartbeats 1600000 in
set_option maxRecDepth 10000 in
theorem Valid_any (x : Al) (w : World) :
    Calls Try.prog 57 #[x.val] w fun e w' => e = .returned (.bool (isV x)) ∧ Below w.heap.size w w' := by
  obtain ⟨t, c, f, v, a⟩ := x
  have hv := @isV_of ⟨t, c, f, v, a⟩
  have hn := @isV_not ⟨t, c, f, v, a⟩
  dsimp only at hv hn
  generalize isV ⟨t, c, f, v, a⟩ = V at hv hn
  have HV := hid hv
  have HN := hid hn
  clear hv hn
  unfold Al.val
  dsimp only
  obtain ⟨b, hb⟩ : ∃ b, isT t = b := ⟨_, rfl⟩
  have HT := hid hb
  clear hb
  cases b
  · go_enter Try.func57, Try.ntmps57
    go_wp2_with fail
    refine (ris_any _ _).mono ?_
    rintro e w' ⟨rfl, rfl⟩
    rw [HT.out]
    go_wp2
    go_ret
    exact ⟨ret_bool (HN.out.2 (by have := isT_not.1 HT.out; omega)).symm, (Below.refl _ _).alloc (Nat.le_refl _) _⟩
  · have go : ∀ (Q : Prop), (0 ≤ c ∧ c ≤ 3 ∧ 0 ≤ f ∧ f ≤ 7 ∧ 0 ≤ v ∧ v ≤ 65535 → Q) → (¬ 0 ≤ c → Q) → (0 ≤ c → ¬ c ≤ 3 → Q) → (0 ≤ c → c ≤ 3 → ¬ 0 ≤ f → Q) → (0 ≤ c → c ≤ 3 → 0 ≤ f → ¬ f ≤ 7 → Q) →
        (0 ≤ c → c ≤ 3 → 0 ≤ f → f ≤ 7 → ¬ 0 ≤ v → Q) → (0 ≤ c → c ≤ 3 → 0 ≤ f → f ≤ 7 → 0 ≤ v → ¬ v ≤ 65535 → Q) → Q := by
      intro Q q0 q1 q2 q3 q4 q5 q6
      by_cases h3 : 0 ≤ c
      · by_cases h4 : c ≤ 3
        · by_cases h5 : 0 ≤ f
          · by_cases h6 : f ≤ 7
            · by_cases h7 : 0 ≤ v
              · by_cases h8 : v ≤ 65535
                · exact q0 ⟨h3, h4, h5, h6, h7, h8⟩
                · exact q6 h3 h4 h5 h6 h7 h8
              · exact q5 h3 h4 h5 h6 h7
            · exact q4 h3 h4 h5 h6
          · exact q3 h3 h4 h5
        · exact q2 h3 h4
      · exact q1 h3
    refine go _ ?_ ?_ ?_ ?_ ?_ ?_ ?_
    · rintro ⟨h1, h2, h3, h4, h5, h6⟩
      clear go
      obtain ⟨m, hm⟩ : ∃ m, isM a = m := ⟨_, rfl⟩
      have HM := hid hm
      clear hm
      go_enter Try.func57, Try.ntmps57
      go_wp2_with fail
      refine (ris_any _ _).mono ?_
      rintro e w' ⟨rfl, rfl⟩
      rw [HT.out]
      go_wp2_with fail
      refine (rmoment_any _ _).mono ?_
      rintro e w' ⟨rfl, rfl⟩
      rw [HM.out]
      go_wp2
      go_ret
      refine ⟨ret_bool ?_, (Below.refl _ _).alloc (Nat.le_refl _) _⟩
      have ht := isT_of.1 HT.out
      cases m
      · exact (HN.out.2 (by have := isM_not.1 HM.out; omega)).symm
      · exact (HV.out.2 (by have := isM_of.1 HM.out; omega)).symm
    all_goals
      clear go
      intros
      go_enter Try.func57, Try.ntmps57
      go_wp2_with fail
      refine (ris_any _ _).mono ?_
      rintro e w' ⟨rfl, rfl⟩
      rw [HT.out]
      go_wp2
      go_ret
      exact ⟨ret_bool (HN.out.2 (by omega)).symm, (Below.refl _ _).alloc (Nat.le_refl _) _⟩
end Go.Proofs.Ytfddnmibjaibhaa
