/- The examples of the sky's chapter: head returns true. -/
import Derived.Test.YtfddnmibjaibhaaS3
namespace Go.Proofs.Ytfddnmibjaibhaa
open Go.RowKit

theorem dN (w : World) (m : Nat) : Below w.heap.size w (w.drewN m) := ⟨rfl, rfl, rfl, Nat.le_refl _, fun _ _ => rfl⟩
theorem near_head : near 0 1 512 = [0, 1, 31, 32, 33, 63] := by decide +kernel

theorem Distance_is {a b d : Int} (h : dist a b = d) (w : World) (h0 : 0 ≤ a) (h1 : a < 512) (h2 : 0 ≤ b) (h3 : b < 512) :
    Calls Try.prog 21 #[.int .i64 a, .int .i64 b] w fun e w' => e = .returned (.tuple #[.int .i64 d, .int .i64 0]) ∧ Below w.heap.size w w' := by
  subst h; exact Distance_ok a b w h0 h1 h2 h3

set_option maxHeartbeats 4000000 in
set_option maxRecDepth 100000 in
theorem head_any (w : World) : Calls Try.prog 14 #[] w fun e w' => e = .returned (.bool true) ∧ Below w.heap.size w w' := by
  go_enter Try.func14, Try.ntmps14
  go_wp2_with fail
  refine (tile_ok 5759 0 _ (by decide)).mono ?_
  rintro e w1 ⟨rfl, hb1⟩
  go_wp2_with fail
  refine (tile_ok 180 360 _ (by decide)).mono ?_
  rintro e w2 ⟨rfl, hb2⟩
  go_wp2_with fail
  refine (cell_ok 5759 0 _ (by decide)).mono ?_
  rintro e w3 ⟨rfl, hb3⟩
  go_wp2_with fail
  refine (cell_ok 180 450 _ (by decide)).mono ?_
  rintro e w4 ⟨rfl, hb4⟩
  go_wp2_with fail
  refine (Centre_ok 65 _ (by decide) (by decide)).mono ?_
  rintro e w5 ⟨rfl, hb5⟩
  go_wp2_with fail
  refine (Distance_is (d := 1) (by decide) _ (by decide) (by decide) (by decide) (by decide)).mono ?_
  rintro e w6 ⟨rfl, hb6⟩
  go_wp2_with fail
  refine (Distance_is (d := 16) (by decide) _ (by decide) (by decide) (by decide) (by decide)).mono ?_
  rintro e w7 ⟨rfl, hb7⟩
  go_wp2_with fail
  refine (Distance_is (d := 15) (by decide) _ (by decide) (by decide) (by decide) (by decide)).mono ?_
  rintro e w8 ⟨rfl, hb8⟩
  go_wp2_with fail
  refine (Near_ok 0 1 _ (by decide) (by decide) (by decide) (by decide)).mono ?_
  rintro e w9 ⟨v, rfl, hown, hb9⟩
  rw [near_head, nv_eq] at hown
  obtain ⟨hn, A, c, rfl, hR⟩ := own_shape hown
  have hR : RowI w9 w9.heap.size A [0, 1, 31, 32, 33, 63] := hR
  have hB := bl (bl (bl hb6 hb7) hb8) hb9
  have c0 : w9.cell? ⟨w5.heap.size, 0, none⟩ = some (.int .i64 270) := by rw [hB.cell (by simp)]; simp
  have c1 : w9.cell? ⟨w5.heap.size, 1, none⟩ = some (.int .i64 450) := by rw [hB.cell (by simp)]; simp
  have HN := hid hn
  clear hn hown
  have hR2 : ∀ o, RowI (w9.alloc o) (w9.alloc o).heap.size A [0, 1, 31, 32, 33, 63] := fun o => (hR.kept (ba (Below.refl _ _) _)).more (by simp)
  have HR2 := hid hR2
  have HB := hid (bl (ba (bl (bl (bl (bl (bl (Below.refl _ w) hb1) hb2) hb3) hb4) hb5) (.cells #[.int .i64 270, .int .i64 450] 23)) hB)
  clear hR2 hR hB hb1 hb2 hb3 hb4 hb5 hb6 hb7 hb8 hb9
  go_wp2_with fail
  refine (Ints_any A _ c 6 [0, 1, 31, 32, 33, 63] [0, 1, 31, 32, 33, 63] _ (HR2.out _) (.inr ⟨_, rfl, by simp, ?_⟩) (by simp) (by simp)).mono ?_
  · intro j hj
    match j, hj with
    | 0, _ => simp
    | 1, _ => simp
    | 2, _ => simp
    | 3, _ => simp
    | 4, _ => simp
    | 5, _ => simp
  rintro e w10 ⟨rfl, m, rfl⟩
  go_wp2
  go_ret
  exact ⟨rfl, bl (ba HB.out _) (dN _ _)⟩
end Go.Proofs.Ytfddnmibjaibhaa
