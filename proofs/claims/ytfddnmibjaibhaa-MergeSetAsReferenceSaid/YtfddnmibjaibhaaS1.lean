/- Contracts of the small functions of package sky. -/
import Derived.Test.YtfddnmibjaibhaaProg
import Derived.Test.YtfddnmibjaibhaaS0
import Derived.WalkKit
import Derived.WalkSpells
import Derived.WalkLawsBesides
import Derived.Deep.QuietTactic
import Derived.BigQuiet
import Derived.Deep.RegionHeld3
namespace Go.Proofs.Ytfddnmibjaibhaa
open Go.RowKit

theorem hid {p : Prop} (h : p) : Hid p := h
theorem ret_int {k : IntKind} {a b : Int} (h : a = b) : Ending.returned (.int k a) = .returned (.int k b) := by rw [h]
theorem ret_bool {a b : Bool} (h : a = b) : Ending.returned (.bool a) = .returned (.bool b) := by rw [h]

set_option maxHeartbeats 400000 in
theorem tile1_any (n : Int) (w : World) (h0 : 0 ≤ n) (h1 : n ≤ 1000000) :
    Calls Try.prog 43 #[.int .i64 n] w fun e w' => e = .returned (.int .i64 (n / 180)) ∧ w = w' := by
  go_enter Try.func43, Try.ntmps43
  go_wp2
  go_ret
  exact ⟨rfl, rfl⟩

set_option maxHeartbeats 400000 in
theorem cell1_any (n : Int) (w : World) (h0 : 0 ≤ n) (h1 : n ≤ 1000000) :
    Calls Try.prog 45 #[.int .i64 n] w fun e w' => e = .returned (.int .i64 (n % 180 * 2 / 180)) ∧ w = w' := by
  go_enter Try.func45, Try.ntmps45
  go_wp2
  go_ret
  exact ⟨rfl, rfl⟩

set_option maxHeartbeats 400000 in
theorem abs_any (n : Int) (w : World) (h0 : -1000000 ≤ n) (h1 : n ≤ 1000000) :
    Calls Try.prog 60 #[.int .i64 n] w fun e w' => e = .returned (.int .i64 (max n (-n))) ∧ w = w' := by
  go_enter Try.func60, Try.ntmps60
  go_wp2
  all_goals
    go_ret
    exact ⟨ret_int (by omega), rfl⟩

set_option maxHeartbeats 800000 in
theorem each_tile (x y : Int) (w : World) (h0 : 0 ≤ x) (h1 : x ≤ 1000000) (h2 : 0 ≤ y) (h3 : y ≤ 1000000) :
    Calls Try.prog 42 #[.agg #[.int .i64 x, .int .i64 y], .func (.func 43) #[] #[]] w fun e w' => e = .returned (.agg #[.int .i64 (x / 180), .int .i64 (y / 180)]) ∧ Below w.heap.size w w' := by
  go_enter Try.func42, Try.ntmps42
  go_wp2
  go_region_held3 (fun w' => w'.cell? ⟨w.heap.size, 0, none⟩ = some (.int .i64 x) ∧ w'.cell? ⟨w.heap.size, 1, none⟩ = some (.int .i64 y)) (go_keep)
    (first | (go_at_call 43; refine (tile1_any _ _ (by omega) (by omega)).mono ?_; rintro e w' ⟨rfl, rfl⟩))
  go_wp2
  exact bodyPost_ret (v := .agg #[.int .i64 (x / 180), .int .i64 (y / 180)]) (by simp [results, Try.results42, go_sem]) rfl ⟨rfl, (((Below.refl _ _).alloc (Nat.le_refl _) _).alloc (by simp) _).drew⟩

set_option maxHeartbeats 800000 in
theorem each_cell (x y : Int) (w : World) (h0 : 0 ≤ x) (h1 : x ≤ 1000000) (h2 : 0 ≤ y) (h3 : y ≤ 1000000) :
    Calls Try.prog 42 #[.agg #[.int .i64 x, .int .i64 y], .func (.func 45) #[] #[]] w fun e w' => e = .returned (.agg #[.int .i64 (x % 180 * 2 / 180), .int .i64 (y % 180 * 2 / 180)]) ∧ Below w.heap.size w w' := by
  go_enter Try.func42, Try.ntmps42
  go_wp2
  go_region_held3 (fun w' => w'.cell? ⟨w.heap.size, 0, none⟩ = some (.int .i64 x) ∧ w'.cell? ⟨w.heap.size, 1, none⟩ = some (.int .i64 y)) (go_keep)
    (first | (go_at_call 45; refine (cell1_any _ _ (by omega) (by omega)).mono ?_; rintro e w' ⟨rfl, rfl⟩))
  go_wp2
  exact bodyPost_ret (v := .agg #[.int .i64 (x % 180 * 2 / 180), .int .i64 (y % 180 * 2 / 180)]) (by simp [results, Try.results42, go_sem]) rfl ⟨rfl, (((Below.refl _ _).alloc (Nat.le_refl _) _).alloc (by simp) _).drew⟩

def posB (x y : Int) : Bool := decide (0 ≤ x) && decide (x < 5760) && decide (0 ≤ y) && decide (y < 2880)
theorem posB_of {x y : Int} : posB x y = true ↔ (0 ≤ x ∧ x < 5760 ∧ 0 ≤ y ∧ y < 2880) := by unfold posB; simp [and_assoc]
theorem posB_not {x y : Int} : posB x y = false ↔ ¬ (0 ≤ x ∧ x < 5760 ∧ 0 ≤ y ∧ y < 2880) := by rw [← posB_of]; simp

set_option maxHeartbeats 800000 in
theorem valid_any (x y : Int) (w : World) :
    Calls Try.prog 41 #[.agg #[.int .i64 x, .int .i64 y]] w fun e w' => e = .returned (.bool (posB x y)) ∧ Below w.heap.size w w' := by
  by_cases a : 0 ≤ x
  · by_cases b : x < 5760
    · by_cases c : 0 ≤ y
      · by_cases d : y < 2880
        all_goals
          go_enter Try.func41, Try.ntmps41
          go_wp2
          go_ret
          exact ⟨ret_bool (by simp [posB, a, b, c, d]), (Below.refl _ _).alloc (Nat.le_refl _) _⟩
      · go_enter Try.func41, Try.ntmps41
        go_wp2
        go_ret
        exact ⟨ret_bool (posB_not.2 (by omega)).symm, (Below.refl _ _).alloc (Nat.le_refl _) _⟩
    · go_enter Try.func41, Try.ntmps41
      go_wp2
      go_ret
      exact ⟨ret_bool (posB_not.2 (by omega)).symm, (Below.refl _ _).alloc (Nat.le_refl _) _⟩
  · go_enter Try.func41, Try.ntmps41
    go_wp2
    go_ret
    exact ⟨ret_bool (posB_not.2 (by omega)).symm, (Below.refl _ _).alloc (Nat.le_refl _) _⟩


theorem bcell {W w1 : World} (hb : Below W.heap.size W w1) : (∀ b o, b < W.heap.size → w1.cell? ⟨b, o, none⟩ = W.cell? ⟨b, o, none⟩) ∧ (∀ b o, b < W.heap.size → w1.frozen? ⟨b, o, none⟩ = W.frozen? ⟨b, o, none⟩) :=
  ⟨fun b o h => hb.cell (p := ⟨b, o, none⟩) h, fun b o h => hb.frozen (p := ⟨b, o, none⟩) h⟩

/-- A call behind what has been. -/
theorem bl {w a b : World} (h : Below w.heap.size w a) (hb : Below a.heap.size a b) : Below w.heap.size w b := h.trans (hb.mono h.size)
theorem ba {w a : World} (h : Below w.heap.size w a) (o : Obj) : Below w.heap.size w (a.alloc o) := h.alloc h.size o

set_option maxHeartbeats 800000 in
theorem tile_ok (x y : Int) (w : World) (h : posB x y = true) :
    Calls Try.prog 15 #[.agg #[.int .i64 x, .int .i64 y]] w fun e w' => e = .returned (.tuple #[.int .i64 (32 * (y / 180) + x / 180), .int .i64 0]) ∧ Below w.heap.size w w' := by
  obtain ⟨h0, h1, h2, h3⟩ := posB_of.1 h
  go_enter Try.func15, Try.ntmps15
  go_wp2_with fail
  refine (valid_any _ _ _).mono ?_
  rintro e w' ⟨rfl, hb⟩
  obtain ⟨hc, hf⟩ := bcell hb
  have hz : w.heap.size < w'.heap.size := by have := hb.size; simp at this; omega
  go_wp2_with fail
  refine (each_tile _ _ _ (by omega) (by omega) (by omega) (by omega)).mono ?_
  rintro e w2 ⟨rfl, hb2⟩
  go_wp2
  go_ret2
  exact ⟨rfl, ba (bl (bl (ba (Below.refl _ _) _) hb) hb2) _⟩

set_option maxHeartbeats 800000 in
theorem tile_err (x y : Int) (w : World) (h : posB x y = false) :
    Calls Try.prog 15 #[.agg #[.int .i64 x, .int .i64 y]] w fun e w' => e = .returned (.tuple #[.int .i64 0, .int .i64 1]) ∧ Below w.heap.size w w' := by
  go_enter Try.func15, Try.ntmps15
  go_wp2_with fail
  refine (valid_any _ _ _).mono ?_
  rintro e w' ⟨rfl, hb⟩
  go_wp2
  go_ret2
  exact ⟨rfl, bl (ba (Below.refl _ _) _) hb⟩

set_option maxHeartbeats 800000 in
theorem cell_ok (x y : Int) (w : World) (h : posB x y = true) :
    Calls Try.prog 17 #[.agg #[.int .i64 x, .int .i64 y]] w fun e w' => e = .returned (.tuple #[.int .i64 (2 * (y % 180 * 2 / 180) + x % 180 * 2 / 180), .int .i64 0]) ∧ Below w.heap.size w w' := by
  obtain ⟨h0, h1, h2, h3⟩ := posB_of.1 h
  go_enter Try.func17, Try.ntmps17
  go_wp2_with fail
  refine (valid_any _ _ _).mono ?_
  rintro e w' ⟨rfl, hb⟩
  obtain ⟨hc, hf⟩ := bcell hb
  have hz : w.heap.size < w'.heap.size := by have := hb.size; simp at this; omega
  go_wp2_with fail
  refine (each_cell _ _ _ (by omega) (by omega) (by omega) (by omega)).mono ?_
  rintro e w2 ⟨rfl, hb2⟩
  go_wp2
  go_ret2
  exact ⟨rfl, ba (bl (bl (ba (Below.refl _ _) _) hb) hb2) _⟩

set_option maxHeartbeats 800000 in
theorem cell_err (x y : Int) (w : World) (h : posB x y = false) :
    Calls Try.prog 17 #[.agg #[.int .i64 x, .int .i64 y]] w fun e w' => e = .returned (.tuple #[.int .i64 0, .int .i64 1]) ∧ Below w.heap.size w w' := by
  go_enter Try.func17, Try.ntmps17
  go_wp2_with fail
  refine (valid_any _ _ _).mono ?_
  rintro e w' ⟨rfl, hb⟩
  go_wp2
  go_ret2
  exact ⟨rfl, bl (ba (Below.refl _ _) _) hb⟩
end Go.Proofs.Ytfddnmibjaibhaa
