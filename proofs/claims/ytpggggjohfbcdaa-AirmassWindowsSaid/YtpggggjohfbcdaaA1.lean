/- Contracts of the small functions of packages calendar and airmass. -/
import Derived.Test.YtpggggjohfbcdaaProg
import Derived.Test.YtpggggjohfbcdaaA0
import Derived.WalkKit
import Derived.WalkSpells
import Derived.WalkLawsBesides
import Derived.Deep.QuietTactic
import Derived.BigQuiet
import Derived.Deep.RegionHeld3
import Derived.Deep.DeepCutAuto
namespace Go.Proofs.Ytpggggjohfbcdaa
open Go.RowKit

theorem hid {p : Prop} (h : p) : Hid p := h
theorem ret_int {k : IntKind} {a b : Int} (h : a = b) : Ending.returned (.int k a) = .returned (.int k b) := by rw [h]
theorem ret_bool {a b : Bool} (h : a = b) : Ending.returned (.bool a) = .returned (.bool b) := by rw [h]
theorem ret_ie {a b : Int} {x : Value} (h : a = b) : Ending.returned (.tuple #[.int .i64 a, x]) = .returned (.tuple #[.int .i64 b, x]) := by rw [h]

/-- 0 ≤ x < n -/
def wiB (x n : Int) : Bool := decide (0 ≤ x) && decide (x < n)
theorem wiB_of {x n : Int} : wiB x n = true ↔ (0 ≤ x ∧ x < n) := by unfold wiB; simp
theorem wiB_not {x n : Int} : wiB x n = false ↔ ¬ (0 ≤ x ∧ x < n) := by rw [← wiB_of]; simp

set_option maxHeartbeats 400000 in
theorem within_any (x n : Int) (w : World) : Calls Try.prog 37 #[.int .i64 x, .int .i64 n] w fun e w' => e = .returned (.bool (wiB x n)) ∧ w = w' := by
  by_cases a : 0 ≤ x
  · by_cases b : x < n
    · go_enter Try.func37, Try.ntmps37
      go_wp2
      go_ret
      exact ⟨ret_bool (wiB_of.2 ⟨a, b⟩).symm, rfl⟩
    · go_enter Try.func37, Try.ntmps37
      go_wp2
      go_ret
      exact ⟨ret_bool (wiB_not.2 (by omega)).symm, rfl⟩
  · go_enter Try.func37, Try.ntmps37
    go_wp2
    go_ret
    exact ⟨ret_bool (wiB_not.2 (by omega)).symm, rfl⟩

set_option maxHeartbeats 400000 in
theorem split_ok (m : Int) (w : World) (h0 : 0 ≤ m) (h1 : m < 38400) : Calls Try.prog 34 #[.int .i64 m] w fun e w' => e = .returned (.tuple #[.int .i64 (m / 96), .int .i64 (m % 96), .int .i64 0]) ∧ w = w' := by
  have hw : wiB m 38400 = true := wiB_of.2 ⟨h0, h1⟩
  go_enter Try.func34, Try.ntmps34
  go_wp2_with fail
  refine (within_any _ _ _).mono ?_
  rintro e w1 ⟨rfl, rfl⟩
  go_wp2
  go_ret3
  exact ⟨rfl, rfl⟩
set_option maxHeartbeats 400000 in
theorem split_err (m : Int) (w : World) (h : ¬ (0 ≤ m ∧ m < 38400)) : Calls Try.prog 34 #[.int .i64 m] w fun e w' => e = .returned (.tuple #[.int .i64 0, .int .i64 0, .int .i64 1]) ∧ w = w' := by
  have hw : wiB m 38400 = false := wiB_not.2 h
  go_enter Try.func34, Try.ntmps34
  go_wp2_with fail
  refine (within_any _ _ _).mono ?_
  rintro e w1 ⟨rfl, rfl⟩
  go_wp2
  go_ret3
  exact ⟨rfl, rfl⟩

set_option maxHeartbeats 400000 in
theorem Sidereal_ok (m : Int) (w : World) (h0 : 0 ≤ m) (h1 : m < 38400) : Calls Try.prog 21 #[.int .i64 m] w fun e w' => e = .returned (.tuple #[.int .i64 (sid m), .int .i64 0]) ∧ w = w' := by
  go_enter Try.func21, Try.ntmps21
  go_wp2_with fail
  refine (split_ok _ _ h0 h1).mono ?_
  rintro e w1 ⟨rfl, rfl⟩
  go_wp2
  go_ret2
  exact ⟨rfl, rfl⟩
set_option maxHeartbeats 400000 in
theorem Sidereal_err (m : Int) (w : World) (h : ¬ (0 ≤ m ∧ m < 38400)) : Calls Try.prog 21 #[.int .i64 m] w fun e w' => e = .returned (.tuple #[.int .i64 0, .int .i64 1]) ∧ w = w' := by
  have H := hid h
  clear h
  go_enter Try.func21, Try.ntmps21
  go_wp2_with fail
  refine (split_err _ _ H.out).mono ?_
  rintro e w1 ⟨rfl, rfl⟩
  go_wp2
  go_ret2
  exact ⟨rfl, rfl⟩

set_option maxHeartbeats 400000 in
theorem Hour_ok (c m : Int) (w : World) (h0 : 0 ≤ m) (h1 : m < 38400) (h2 : 0 ≤ c) (h3 : c < 32) : Calls Try.prog 11 #[.int .i64 c, .int .i64 m] w fun e w' => e = .returned (.tuple #[.int .i64 (hr c m), .int .i64 0]) ∧ w = w' := by
  have hs := sid_bd m
  go_enter Try.func11, Try.ntmps11
  go_wp2_with fail
  refine (Sidereal_ok _ _ h0 h1).mono ?_
  rintro e w1 ⟨rfl, rfl⟩
  go_wp2
  go_ret2
  exact ⟨ret_ie (by unfold hr; omega), rfl⟩
set_option maxHeartbeats 800000 in
theorem Hour_err (c m : Int) (w : World) (h : ¬ (0 ≤ m ∧ m < 38400 ∧ 0 ≤ c ∧ c < 32)) : Calls Try.prog 11 #[.int .i64 c, .int .i64 m] w fun e w' => e = .returned (.tuple #[.int .i64 0, .int .i64 1]) ∧ w = w' := by
  by_cases hm : 0 ≤ m ∧ m < 38400
  · obtain ⟨h0, h1⟩ := hm
    by_cases hc : 0 ≤ c
    · have hc2 : 32 ≤ c := by omega
      clear h
      go_enter Try.func11, Try.ntmps11
      go_wp2_with fail
      refine (Sidereal_ok _ _ h0 h1).mono ?_
      rintro e w1 ⟨rfl, rfl⟩
      go_wp2
      go_ret2
      exact ⟨rfl, rfl⟩
    · clear h
      go_enter Try.func11, Try.ntmps11
      go_wp2_with fail
      refine (Sidereal_ok _ _ h0 h1).mono ?_
      rintro e w1 ⟨rfl, rfl⟩
      go_wp2
      go_ret2
      exact ⟨rfl, rfl⟩
  · have H := hid hm
    clear h hm
    go_enter Try.func11, Try.ntmps11
    go_wp2_with fail
    refine (Sidereal_err _ _ H.out).mono ?_
    rintro e w1 ⟨rfl, rfl⟩
    go_wp2
    go_ret2
    exact ⟨rfl, rfl⟩

/-- there is a site and a tile -/
def exB (s t : Int) : Bool := decide (0 ≤ s) && decide (s < 16) && decide (0 ≤ t) && decide (t < 512)
theorem exB_of {s t : Int} : exB s t = true ↔ (0 ≤ s ∧ s < 16 ∧ 0 ≤ t ∧ t < 512) := by unfold exB; simp [and_assoc]
theorem exB_not {s t : Int} : exB s t = false ↔ ¬ (0 ≤ s ∧ s < 16 ∧ 0 ≤ t ∧ t < 512) := by rw [← exB_of]; simp

set_option maxHeartbeats 800000 in
theorem exists_any (s t : Int) (w : World) : Calls Try.prog 28 #[.int .i64 s, .int .i64 t] w fun e w' => e = .returned (.bool (exB s t)) ∧ w = w' := by
  by_cases a : 0 ≤ s
  · by_cases b : s < 16
    · by_cases c : 0 ≤ t
      · by_cases d : t < 512
        · go_enter Try.func28, Try.ntmps28
          go_wp2
          go_ret
          exact ⟨ret_bool (exB_of.2 ⟨a, b, c, d⟩).symm, rfl⟩
        · go_enter Try.func28, Try.ntmps28
          go_wp2
          go_ret
          exact ⟨ret_bool (exB_not.2 (by omega)).symm, rfl⟩
      · go_enter Try.func28, Try.ntmps28
        go_wp2
        go_ret
        exact ⟨ret_bool (exB_not.2 (by omega)).symm, rfl⟩
    · go_enter Try.func28, Try.ntmps28
      go_wp2
      go_ret
      exact ⟨ret_bool (exB_not.2 (by omega)).symm, rfl⟩
  · go_enter Try.func28, Try.ntmps28
    go_wp2
    go_ret
    exact ⟨ret_bool (exB_not.2 (by omega)).symm, rfl⟩

set_option maxHeartbeats 400000 in
theorem abs_any (n : Int) (w : World) (h0 : -1000000 ≤ n) (h1 : n ≤ 1000000) : Calls Try.prog 29 #[.int .i64 n] w fun e w' => e = .returned (.int .i64 (ab n)) ∧ w = w' := by
  by_cases a : n < 0
  all_goals
    go_enter Try.func29, Try.ntmps29
    go_wp2
    go_ret
    exact ⟨ret_int (by unfold ab; split <;> omega), rfl⟩

set_option maxHeartbeats 800000 in
theorem Height_ok (s t m : Int) (w : World) (h0 : 0 ≤ m) (h1 : m < 38400) (h2 : 0 ≤ s) (h3 : s < 16) (h4 : 0 ≤ t) (h5 : t < 512) : Calls Try.prog 13 #[.int .i64 s, .int .i64 t, .int .i64 m] w fun e w' => e = .returned (.tuple #[.int .i64 (ht s t m), .int .i64 0]) ∧ w = w' := by
  have he : exB s t = true := exB_of.2 ⟨h2, h3, h4, h5⟩
  have hb := hr_bd (t % 32) m
  have ha := ab_bd (t / 32 - s) 15 (by omega) (by omega)
  have hc := ab_bd (hr (t % 32) m) 2880 (by omega) (by omega)
  go_enter Try.func13, Try.ntmps13
  go_wp2_with fail
  refine (exists_any _ _ _).mono ?_
  rintro e w1 ⟨rfl, rfl⟩
  go_wp2_with fail
  refine (Hour_ok _ _ _ h0 h1 (by omega) (by omega)).mono ?_
  rintro e w1 ⟨rfl, rfl⟩
  go_wp2_with fail
  refine (abs_any _ _ (by omega) (by omega)).mono ?_
  rintro e w1 ⟨rfl, rfl⟩
  go_wp2_with fail
  refine (abs_any _ _ (by omega) (by omega)).mono ?_
  rintro e w1 ⟨rfl, rfl⟩
  go_wp2
  go_ret2
  exact ⟨rfl, rfl⟩
set_option maxHeartbeats 800000 in
theorem Height_err (s t m : Int) (w : World) (h : ¬ (0 ≤ m ∧ m < 38400 ∧ 0 ≤ s ∧ s < 16 ∧ 0 ≤ t ∧ t < 512)) : Calls Try.prog 13 #[.int .i64 s, .int .i64 t, .int .i64 m] w fun e w' => e = .returned (.tuple #[.int .i64 0, .int .i64 1]) ∧ w = w' := by
  by_cases he : exB s t = true
  · obtain ⟨h2, h3, h4, h5⟩ := exB_of.1 he
    have H := hid (show ¬ (0 ≤ m ∧ m < 38400 ∧ 0 ≤ t % 32 ∧ t % 32 < 32) from by omega)
    clear h
    go_enter Try.func13, Try.ntmps13
    go_wp2_with fail
    refine (exists_any _ _ _).mono ?_
    rintro e w1 ⟨rfl, rfl⟩
    go_wp2_with fail
    refine (Hour_err _ _ _ H.out).mono ?_
    rintro e w1 ⟨rfl, rfl⟩
    go_wp2
    go_ret2
    exact ⟨rfl, rfl⟩
  · have he : exB s t = false := by simpa using he
    clear h
    go_enter Try.func13, Try.ntmps13
    go_wp2_with fail
    refine (exists_any _ _ _).mono ?_
    rintro e w1 ⟨rfl, rfl⟩
    go_wp2
    go_ret2
    exact ⟨rfl, rfl⟩

/-- the airmass, and its error -/
def amV (h : Int) : Int := if 900 < h then 0 else if h < 100 then 0 else 900000 / h
def amE (h : Int) : Int := if 900 < h then 1 else if h < 100 then 19 else 0
set_option maxHeartbeats 800000 in
theorem Airmass_any (h : Int) (w : World) : Calls Try.prog 15 #[.int .i64 h] w fun e w' => e = .returned (.tuple #[.int .i64 (amV h), .int .i64 (amE h)]) ∧ w = w' := by
  unfold amV amE
  by_cases a : 900 < h
  · rw [if_pos a, if_pos a]
    go_enter Try.func15, Try.ntmps15
    go_wp2
    go_ret2
    exact ⟨rfl, rfl⟩
  · rw [if_neg a, if_neg a]
    by_cases b : h < 100
    · rw [if_pos b, if_pos b]
      go_enter Try.func15, Try.ntmps15
      go_wp2
      go_ret2
      exact ⟨rfl, rfl⟩
    · rw [if_neg b, if_neg b]
      go_enter Try.func15, Try.ntmps15
      go_wp2
      go_ret2
      exact ⟨rfl, rfl⟩
set_option maxHeartbeats 800000 in
theorem rAirmass_any (h : Int) (w : World) : Calls Try.prog 16 #[.int .i64 h] w fun e w' => e = .returned (.tuple #[.int .i64 (amV h), .int .i64 (amE h)]) ∧ w = w' := by
  unfold amV amE
  by_cases a : 900 < h
  · rw [if_pos a, if_pos a]
    go_enter Try.func16, Try.ntmps16
    go_wp2
    go_ret2
    exact ⟨rfl, rfl⟩
  · rw [if_neg a, if_neg a]
    by_cases b : h < 100
    · rw [if_pos b, if_pos b]
      go_enter Try.func16, Try.ntmps16
      go_wp2
      go_ret2
      exact ⟨rfl, rfl⟩
    · rw [if_neg b, if_neg b]
      go_enter Try.func16, Try.ntmps16
      go_wp2
      go_ret2
      exact ⟨rfl, rfl⟩

set_option maxHeartbeats 800000 in
theorem Moment_ok (n s : Int) (w : World) (h0 : 0 ≤ n) (h1 : n < 400) (h2 : 0 ≤ s) (h3 : s < 96) : Calls Try.prog 36 #[.int .i64 n, .int .i64 s] w fun e w' => e = .returned (.tuple #[.int .i64 (96 * n + s), .int .i64 0]) ∧ w = w' := by
  have a : wiB n 400 = true := wiB_of.2 ⟨h0, h1⟩
  have b : wiB s 96 = true := wiB_of.2 ⟨h2, h3⟩
  go_enter Try.func36, Try.ntmps36
  go_wp2_with fail
  refine (within_any _ _ _).mono ?_
  rintro e w1 ⟨rfl, rfl⟩
  go_wp2_with fail
  refine (within_any _ _ _).mono ?_
  rintro e w1 ⟨rfl, rfl⟩
  go_wp2
  go_ret2
  exact ⟨ret_ie (by omega), rfl⟩
end Go.Proofs.Ytpggggjohfbcdaa
