/- The sample and the examples of the merge chapter. -/
import Derived.Test.YtfddnmibjaibhaaMC
namespace Go.Proofs.Ytfddnmibjaibhaa
open Go.RowKit

def SL : List Al := [⟨5, 0, 0, 0, 10⟩, ⟨40, 0, 0, 0, 90⟩, ⟨6, 0, 0, 0, 12⟩, ⟨7, 0, 0, 0, 15⟩]
theorem sl_v : allV SL = true := by decide +kernel
theorem sl_3 : grp 3 SL = [[0, 2, 3], [1]] := by decide +kernel
theorem sl_2 : grp 2 SL = [[0, 2], [1], [3]] := by decide +kernel
theorem sl_0 : (grp 0 SL).length = 4 := by decide +kernel
theorem sl_4 : (mem 4 (col 80 SL) (col 80 SL 3)).length = 4 := by decide +kernel
theorem sl_5 : (mem 5 (col 80 (SL ++ [⟨39, 0, 0, 0, 20⟩])) (col 80 (SL ++ [⟨39, 0, 0, 0, 20⟩]) 4)).length = 5 := by decide +kernel
theorem sl_80 : grp 80 (SL ++ [⟨39, 0, 0, 0, 20⟩]) = [[0, 1, 2, 3, 4]] := by decide +kernel

set_option maxHeartbeats 800000 in
theorem sample_any (w : World) : Calls Try.prog 51 #[] w fun e w' => ∃ c, e = .returned (.slice (some ⟨w.heap.size, 0, none⟩) 4 c) ∧ RowA w' w'.heap.size (some ⟨w.heap.size, 0, none⟩) SL ∧ Below w.heap.size w w' := by
  go_enter Try.func51, Try.ntmps51
  go_wp2
  go_ret
  refine ⟨4, rfl, .inr ⟨w.heap.size, 0, rfl, by simp, ?_⟩, ba (Below.refl _ _) _⟩
  intro j x hj i hi
  have hj4 : j < 4 := (List.getElem?_eq_some_iff.1 hj).1
  match j, hj4 with
  | 0, _ =>
    simp [SL] at hj; subst hj
    match i, hi with
    | 0, _ => simp [acell]
    | 1, _ => simp [acell]
    | 2, _ => simp [acell]
    | 3, _ => simp [acell]
    | 4, _ => simp [acell]
  | 1, _ =>
    simp [SL] at hj; subst hj
    match i, hi with
    | 0, _ => simp [acell]
    | 1, _ => simp [acell]
    | 2, _ => simp [acell]
    | 3, _ => simp [acell]
    | 4, _ => simp [acell]
  | 2, _ =>
    simp [SL] at hj; subst hj
    match i, hi with
    | 0, _ => simp [acell]
    | 1, _ => simp [acell]
    | 2, _ => simp [acell]
    | 3, _ => simp [acell]
    | 4, _ => simp [acell]
  | 3, _ =>
    simp [SL] at hj; subst hj
    match i, hi with
    | 0, _ => simp [acell]
    | 1, _ => simp [acell]
    | 2, _ => simp [acell]
    | 3, _ => simp [acell]
    | 4, _ => simp [acell]
end Go.Proofs.Ytfddnmibjaibhaa
