/- New of package merge. -/
import Derived.Test.YtfddnmibjaibhaaM6
namespace Go.Proofs.Ytfddnmibjaibhaa
open Go.RowKit

set_option maxHeartbeats 800000 in
theorem New_bad (win : Int) (w : World) (hw : isM win = false) :
    Calls Try.prog 32 #[.int .i64 win] w fun e w' => e = .returned (.tuple #[.pointer none, .int .i64 1]) ∧ w = w' := by
  have HW := hid hw
  clear hw
  go_enter Try.func32, Try.ntmps32
  go_wp2_with fail
  refine (moment_any _ _).mono ?_
  rintro e w1 ⟨rfl, rfl⟩
  rw [HW.out]
  go_wp2
  go_ret2
  exact ⟨rfl, rfl⟩

/-- a set's cells, all zero -/
def cs0 : Array Value := #[.int .i64 0, .slice none 0 0] ++ Array.replicate 400 (.int .i64 0)
theorem zero76 (w : World) : (zeroValue 76).run Try.prog w = .ok (.agg cs0) w := by kernel_rfl
theorem cs0_size : cs0.size = 402 := by simp [cs0]
theorem cs0_ne : (cs0 = #[]) = False := by
  rw [eq_iff_iff]; constructor
  · intro h; have := cs0_size; rw [h] at this; simp at this
  · exact False.elim
theorem setB_new (win : Int) (w : World) : SetB (w.alloc (.cells (cs0.setIfInBounds 0 (.int .i64 win)) 76)) w.heap.size win (.slice none 0 0) (fun _ => 0) (fun _ => 0) := by
  have h := World.rowIs_alloc w (cs0.setIfInBounds 0 (.int .i64 win)) 76 (setF win (.slice none 0 0) (fun _ => 0) (fun _ => 0)) (fun i hi => by
    rw [Array.size_setIfInBounds, cs0_size] at hi
    rw [Array.getElem?_setIfInBounds]
    unfold setF
    by_cases e0 : i = 0
    · subst e0; rw [if_pos rfl, if_pos (by rw [cs0_size]; omega), if_pos rfl]
    · rw [if_neg (by omega), if_neg e0]
      unfold cs0
      by_cases e1 : i = 1
      · subst e1; rw [if_pos rfl, Array.getElem?_append_left (by simp)]; rfl
      · rw [if_neg e1, Array.getElem?_append_right (by simp; omega)]
        simp only [ite_self]
        rw [Array.getElem?_replicate, if_pos (by simp; omega)]
        rfl)
  rw [Array.size_setIfInBounds, cs0_size] at h
  exact h

set_option maxHeartbeats 1600000 in
theorem New_ok (win : Int) (w : World) (hw : isM win = true) :
    Calls Try.prog 32 #[.int .i64 win] w fun e w' => e = .returned (.tuple #[.pointer (some ⟨w.heap.size, 0, none⟩), .int .i64 0]) ∧ SetAt w' w.heap.size win [] (.slice none 0 0) ∧ Below w.heap.size w w' := by
  have HW := hid hw
  clear hw
  go_enter Try.func32, Try.ntmps32
  go_wp2_with fail
  refine (moment_any _ _).mono ?_
  rintro e w1 ⟨rfl, rfl⟩
  rw [HW.out]
  have hz := zero76 w
  have hne := cs0_ne
  go_wp2_with fail
  go_ret2
  refine ⟨rfl, ⟨⟨fun _ => 0, fun _ => 0, fun _ => 0, fun _ => 0, ⟨?_, ?_, ?_, ?_, ?_, ?_, ?_⟩, setB_new win w, .zero _ _⟩, by simp, World.ownsRow_nil _ _ _ _, by simp⟩, (Below.refl _ _).alloc (Nat.le_refl _) _⟩
  all_goals (intro i hi; exact absurd hi (by simp))
end Go.Proofs.Ytfddnmibjaibhaa
