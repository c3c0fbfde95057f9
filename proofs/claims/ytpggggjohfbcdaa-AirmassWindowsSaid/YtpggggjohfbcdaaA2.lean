/- Contracts of the reference's small functions and of the law file's. -/
import Derived.Test.YtpggggjohfbcdaaA1
namespace Go.Proofs.Ytpggggjohfbcdaa
open Go.RowKit

set_option maxHeartbeats 400000 in
theorem rIs_any (m : Int) (w : World) : Calls Try.prog 26 #[.int .i64 m] w fun e w' => e = .returned (.bool (wiB m 38400)) ∧ w = w' := by
  by_cases a : 0 ≤ m
  · by_cases b : m ≤ 38399
    · go_enter Try.func26, Try.ntmps26
      go_wp2
      go_ret
      exact ⟨ret_bool (wiB_of.2 ⟨a, by omega⟩).symm, rfl⟩
    · go_enter Try.func26, Try.ntmps26
      go_wp2
      go_ret
      exact ⟨ret_bool (wiB_not.2 (by omega)).symm, rfl⟩
  · go_enter Try.func26, Try.ntmps26
    go_wp2
    go_ret
    exact ⟨ret_bool (wiB_not.2 (by omega)).symm, rfl⟩
set_option maxHeartbeats 400000 in
theorem rTile_any (m : Int) (w : World) : Calls Try.prog 30 #[.int .i64 m] w fun e w' => e = .returned (.bool (wiB m 512)) ∧ w = w' := by
  by_cases a : 0 ≤ m
  · by_cases b : m < 512
    · go_enter Try.func30, Try.ntmps30
      go_wp2
      go_ret
      exact ⟨ret_bool (wiB_of.2 ⟨a, by omega⟩).symm, rfl⟩
    · go_enter Try.func30, Try.ntmps30
      go_wp2
      go_ret
      exact ⟨ret_bool (wiB_not.2 (by omega)).symm, rfl⟩
  · go_enter Try.func30, Try.ntmps30
    go_wp2
    go_ret
    exact ⟨ret_bool (wiB_not.2 (by omega)).symm, rfl⟩
set_option maxHeartbeats 400000 in
theorem rSid_ok (m : Int) (w : World) (h0 : 0 ≤ m) (h1 : m < 38400) : Calls Try.prog 27 #[.int .i64 m] w fun e w' => e = .returned (.tuple #[.int .i64 (sid m), .int .i64 0]) ∧ w = w' := by
  have hw : wiB m 38400 = true := wiB_of.2 ⟨h0, h1⟩
  go_enter Try.func27, Try.ntmps27
  go_wp2_with fail
  refine (rIs_any _ _).mono ?_
  rintro e w1 ⟨rfl, rfl⟩
  go_wp2
  go_ret2
  exact ⟨rfl, rfl⟩
set_option maxHeartbeats 400000 in
theorem rAbs_any (n : Int) (w : World) (h0 : -1000000 ≤ n) (h1 : n ≤ 1000000) : Calls Try.prog 31 #[.int .i64 n] w fun e w' => e = .returned (.int .i64 (ab n)) ∧ w = w' := by
  by_cases a : n < 0
  all_goals
    go_enter Try.func31, Try.ntmps31
    go_wp2
    go_ret
    exact ⟨ret_int (by unfold ab; split <;> omega), rfl⟩
set_option maxHeartbeats 400000 in
theorem lAbs_any (n : Int) (w : World) (h0 : -1000000 ≤ n) (h1 : n ≤ 1000000) : Calls Try.prog 20 #[.int .i64 n] w fun e w' => e = .returned (.int .i64 (ab n)) ∧ w = w' := by
  go_enter Try.func20, Try.ntmps20
  go_wp2
  all_goals
    go_ret
    exact ⟨ret_int (by unfold ab; split <;> omega), rfl⟩

set_option maxHeartbeats 1600000 in
theorem rHour_ok (c m : Int) (w : World) (h0 : 0 ≤ m) (h1 : m < 38400) (h2 : 0 ≤ c) (h3 : c < 32) : Calls Try.prog 12 #[.int .i64 c, .int .i64 m] w fun e w' => e = .returned (.tuple #[.int .i64 (hr c m), .int .i64 0]) ∧ w = w' := by
  have hw : wiB m 38400 = true := wiB_of.2 ⟨h0, h1⟩
  have hs := sid_bd m
  go_enter Try.func12, Try.ntmps12
  go_wp2_with fail
  refine (rIs_any _ _).mono ?_
  rintro e w1 ⟨rfl, rfl⟩
  go_wp2_with fail
  refine (rSid_ok _ _ h0 h1).mono ?_
  rintro e w1 ⟨rfl, rfl⟩
  go_wp2_with fail
  go_loop [8] (fun h => ∃ k : Int, -5670 ≤ k ∧ k < 5760 ∧ h = .int .i64 k ∧ Hid ((k + 2880) % 5760 - 2880 = hr c m)) (fun h => (5760 - intOf h).toNat)
  case atStart => exact ⟨_, by omega, by omega, rfl, by unfold Hid hr; omega⟩
  case round =>
    obtain ⟨k, hk0, hk1, rfl, he⟩ := hrel
    by_cases hlt : k < -2880
    · go_wp2
      go_round
      case rel => exact ⟨_, by omega, by omega, rfl, by have := he.out; unfold Hid; omega⟩
      case measure => simp [intOf]; omega
    · go_wp2_with fail
      go_loop [8] (fun h => ∃ k : Int, -2880 ≤ k ∧ k < 5760 ∧ h = .int .i64 k ∧ Hid ((k + 2880) % 5760 - 2880 = hr c m)) (fun h => (intOf h + 10000).toNat)
      case atStart => exact ⟨_, by omega, by omega, rfl, he⟩
      case round =>
        obtain ⟨j, hj0, hj1, rfl, hf⟩ := hrel
        by_cases hgt : 2879 < j
        · go_wp2
          go_round
          case rel => exact ⟨_, by omega, by omega, rfl, by have := hf.out; unfold Hid; omega⟩
          case measure => simp [intOf]; omega
        · go_wp2
          go_ret2
          exact ⟨ret_ie (by have := hf.out; omega), rfl⟩
set_option maxHeartbeats 800000 in
theorem rHour_err (c m : Int) (w : World) (h : ¬ (0 ≤ m ∧ m < 38400 ∧ 0 ≤ c ∧ c < 32)) : Calls Try.prog 12 #[.int .i64 c, .int .i64 m] w fun e w' => e = .returned (.tuple #[.int .i64 0, .int .i64 1]) ∧ w = w' := by
  by_cases a : 0 ≤ c
  · by_cases b : 31 < c
    · clear h
      go_enter Try.func12, Try.ntmps12
      go_wp2
      go_ret2
      exact ⟨rfl, rfl⟩
    · have hw : wiB m 38400 = false := wiB_not.2 (by omega)
      clear h
      go_enter Try.func12, Try.ntmps12
      go_wp2_with fail
      refine (rIs_any _ _).mono ?_
      rintro e w1 ⟨rfl, rfl⟩
      go_wp2
      go_ret2
      exact ⟨rfl, rfl⟩
  · clear h
    go_enter Try.func12, Try.ntmps12
    go_wp2
    go_ret2
    exact ⟨rfl, rfl⟩

set_option maxHeartbeats 800000 in
theorem rHeight_ok (s t m : Int) (w : World) (h0 : 0 ≤ m) (h1 : m < 38400) (h2 : 0 ≤ s) (h3 : s < 16) (h4 : 0 ≤ t) (h5 : t < 512) : Calls Try.prog 14 #[.int .i64 s, .int .i64 t, .int .i64 m] w fun e w' => e = .returned (.tuple #[.int .i64 (ht s t m), .int .i64 0]) ∧ w = w' := by
  have hw : wiB m 38400 = true := wiB_of.2 ⟨h0, h1⟩
  have hw2 : wiB t 512 = true := wiB_of.2 ⟨h4, h5⟩
  have hb := hr_bd (t % 32) m
  have ha := ab_bd (t / 32 - s) 15 (by omega) (by omega)
  have hc := ab_bd (hr (t % 32) m) 2880 (by omega) (by omega)
  go_enter Try.func14, Try.ntmps14
  go_wp2_with fail
  refine (rTile_any _ _).mono ?_
  rintro e w1 ⟨rfl, rfl⟩
  go_wp2_with fail
  refine (rIs_any _ _).mono ?_
  rintro e w1 ⟨rfl, rfl⟩
  go_wp2_with fail
  refine (rHour_ok _ _ _ h0 h1 (by omega) (by omega)).mono ?_
  rintro e w1 ⟨rfl, rfl⟩
  go_wp2_with fail
  refine (rAbs_any _ _ (by omega) (by omega)).mono ?_
  rintro e w1 ⟨rfl, rfl⟩
  go_wp2_with fail
  refine (rAbs_any _ _ (by omega) (by omega)).mono ?_
  rintro e w1 ⟨rfl, rfl⟩
  go_wp2
  go_ret2
  exact ⟨rfl, rfl⟩
set_option maxHeartbeats 800000 in
theorem rHeight_err (s t m : Int) (w : World) (h : ¬ (0 ≤ m ∧ m < 38400 ∧ 0 ≤ s ∧ s < 16 ∧ 0 ≤ t ∧ t < 512)) : Calls Try.prog 14 #[.int .i64 s, .int .i64 t, .int .i64 m] w fun e w' => e = .returned (.tuple #[.int .i64 0, .int .i64 1]) ∧ w = w' := by
  by_cases a : 0 ≤ s
  · by_cases b : 15 < s
    · clear h
      go_enter Try.func14, Try.ntmps14
      go_wp2
      go_ret2
      exact ⟨rfl, rfl⟩
    · by_cases ht : 0 ≤ t ∧ t < 512
      · have hw2 : wiB t 512 = true := wiB_of.2 ht
        have hw : wiB m 38400 = false := wiB_not.2 (by omega)
        clear h ht
        go_enter Try.func14, Try.ntmps14
        go_wp2_with fail
        refine (rTile_any _ _).mono ?_
        rintro e w1 ⟨rfl, rfl⟩
        go_wp2_with fail
        refine (rIs_any _ _).mono ?_
        rintro e w1 ⟨rfl, rfl⟩
        go_wp2
        go_ret2
        exact ⟨rfl, rfl⟩
      · have hw2 : wiB t 512 = false := wiB_not.2 ht
        clear h ht
        go_enter Try.func14, Try.ntmps14
        go_wp2_with fail
        refine (rTile_any _ _).mono ?_
        rintro e w1 ⟨rfl, rfl⟩
        go_wp2
        go_ret2
        exact ⟨rfl, rfl⟩
  · clear h
    go_enter Try.func14, Try.ntmps14
    go_wp2
    go_ret2
    exact ⟨rfl, rfl⟩

set_option maxHeartbeats 400000 in
theorem is_yes (n k : Int) (w : World) (h : n = k) : Calls Try.prog 25 #[.int .i64 n, .int .i64 0, .int .i64 k] w fun e w' => e = .returned (.bool true) ∧ w = w' := by
  subst h
  go_enter Try.func25, Try.ntmps25
  go_wp2
  go_ret
  exact ⟨rfl, rfl⟩
set_option maxHeartbeats 400000 in
theorem hour_yes (c m k : Int) (w : World) (h0 : 0 ≤ m) (h1 : m < 38400) (h2 : 0 ≤ c) (h3 : c < 32) (h : hr c m = k) : Calls Try.prog 23 #[.int .i64 c, .int .i64 m, .int .i64 k] w fun e w' => e = .returned (.bool true) ∧ w = w' := by
  have H := hid h
  clear h
  go_enter Try.func23, Try.ntmps23
  go_wp2_with fail
  refine (Hour_ok _ _ _ h0 h1 h2 h3).mono ?_
  rintro e w1 ⟨rfl, rfl⟩
  go_wp2_with fail
  refine (is_yes _ _ _ H.out).mono ?_
  rintro e w1 ⟨rfl, rfl⟩
  go_wp2
  go_ret
  exact ⟨rfl, rfl⟩
set_option maxHeartbeats 400000 in
theorem height_yes (s t m k : Int) (w : World) (h0 : 0 ≤ m) (h1 : m < 38400) (h2 : 0 ≤ s) (h3 : s < 16) (h4 : 0 ≤ t) (h5 : t < 512) (h : ht s t m = k) : Calls Try.prog 24 #[.int .i64 s, .int .i64 t, .int .i64 m, .int .i64 k] w fun e w' => e = .returned (.bool true) ∧ w = w' := by
  have H := hid h
  clear h
  go_enter Try.func24, Try.ntmps24
  go_wp2_with fail
  refine (Height_ok _ _ _ _ h0 h1 h2 h3 h4 h5).mono ?_
  rintro e w1 ⟨rfl, rfl⟩
  go_wp2_with fail
  refine (is_yes _ _ _ H.out).mono ?_
  rintro e w1 ⟨rfl, rfl⟩
  go_wp2
  go_ret
  exact ⟨rfl, rfl⟩
end Go.Proofs.Ytpggggjohfbcdaa
