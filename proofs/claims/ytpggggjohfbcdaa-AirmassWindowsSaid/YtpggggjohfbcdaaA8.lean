/- The examples of the airmass chapter: head returns true. -/
import Derived.Test.YtpggggjohfbcdaaA7
namespace Go.Proofs.Ytpggggjohfbcdaa
open Go.RowKit

theorem win800 : winL 800 0 0 0 = [(0, 6), (93, 95)] := by decide +kernel
theorem win892 : winL 892 0 0 0 = [] := by decide +kernel
theorem winAll : winL (-1000) 0 0 0 = [(0, 95)] := by decide +kernel

theorem Airmass_is {h v x : Int} (hv : amV h = v) (hx : amE h = x) (w : World) : Calls Try.prog 15 #[.int .i64 h] w fun e w' => e = .returned (.tuple #[.int .i64 v, .int .i64 x]) ∧ w = w' := by
  subst hv hx; exact Airmass_any h w
/-- Windows, its result as a list that is read. -/
theorem Windows_is {s t night least : Int} {l : List (Int × Int)} (hl : winL least s t night = l) (w : World) (h0 : 0 ≤ s) (h1 : s < 16) (h2 : 0 ≤ t) (h3 : t < 512) (h4 : 0 ≤ night) (h5 : night < 400) :
    Calls Try.prog 17 #[.int .i64 s, .int .i64 t, .int .i64 night, .int .i64 least] w fun e W' =>
      ∃ A c, e = .returned (.tuple #[.slice A l.length c, .int .i64 0]) ∧ RowS W' W'.heap.size A l ∧ Below w.heap.size w W' :=
  (Windows_ok s t night least w h0 h1 h2 h3 h4 h5).mono fun e W' ⟨v, he, hown, hb⟩ => by
    obtain ⟨hn, A, c, rfl, hR⟩ := own_shapeS hown
    subst hl
    exact ⟨A, c, he, hR, hb⟩

theorem bl {w a b : World} (h : Below w.heap.size w a) (hb : Below a.heap.size a b) : Below w.heap.size w b := h.trans (hb.mono h.size)
theorem ba {w a : World} (h : Below w.heap.size w a) (o : Obj) : Below w.heap.size w (a.alloc o) := h.alloc h.size o
theorem dN (w : World) (m : Nat) : Below w.heap.size w (w.drewN m) := ⟨rfl, rfl, rfl, Nat.le_refl _, fun _ _ => rfl⟩
theorem RowS.call {w w' : World} {A : Option Addr} {l : List (Int × Int)} (h : RowS w w.heap.size A l) (hb : Below w.heap.size w w') : RowS w' w'.heap.size A l := (h.kept hb).more hb.size

set_option maxHeartbeats 4000000 in
set_option maxRecDepth 100000 in
theorem head_any (w : World) : Calls Try.prog 10 #[] w fun e w' => e = .returned (.bool true) ∧ Below w.heap.size w w' := by
  go_enter Try.func10, Try.ntmps10
  go_wp2_with fail
  refine (Airmass_is (v := 1000) (x := 0) (by decide) (by decide) _).mono ?_
  rintro e w1 ⟨rfl, rfl⟩
  go_wp2_with fail
  refine (Airmass_is (v := 2000) (x := 0) (by decide) (by decide) _).mono ?_
  rintro e w1 ⟨rfl, rfl⟩
  go_wp2_with fail
  refine (Airmass_is (v := 9000) (x := 0) (by decide) (by decide) _).mono ?_
  rintro e w1 ⟨rfl, rfl⟩
  go_wp2_with fail
  refine (Airmass_is (v := 0) (x := 19) (by decide) (by decide) _).mono ?_
  rintro e w1 ⟨rfl, rfl⟩
  go_wp2_with fail
  refine (Airmass_is (v := 0) (x := 1) (by decide) (by decide) _).mono ?_
  rintro e w1 ⟨rfl, rfl⟩
  go_wp2_with fail
  refine (Windows_is win800 _ (by decide) (by decide) (by decide) (by decide) (by decide) (by decide)).mono ?_
  rintro e w1 ⟨A1, c1, rfl, R1, hb1⟩
  go_wp2_with fail
  refine (Windows_is win892 _ (by decide) (by decide) (by decide) (by decide) (by decide) (by decide)).mono ?_
  rintro e w2 ⟨A2, c2, rfl, R2, hb2⟩
  go_wp2_with fail
  refine (Windows_is winAll _ (by decide) (by decide) (by decide) (by decide) (by decide) (by decide)).mono ?_
  rintro e w3 ⟨A3, c3, rfl, R3, hb3⟩
  have HR1 := hid ((R1.call hb2).call hb3)
  have HR3 := hid R3
  have HB := hid (bl (bl hb1 hb2) hb3)
  clear R1 R2 R3 hb1 hb2 hb3
  go_wp2_with fail
  refine (hour_yes _ _ _ _ (by decide) (by decide) (by decide) (by decide) (by decide)).mono ?_
  rintro e w4 ⟨rfl, rfl⟩
  go_wp2_with fail
  refine (hour_yes _ _ _ _ (by decide) (by decide) (by decide) (by decide) (by decide)).mono ?_
  rintro e w4 ⟨rfl, rfl⟩
  go_wp2_with fail
  refine (hour_yes _ _ _ _ (by decide) (by decide) (by decide) (by decide) (by decide)).mono ?_
  rintro e w4 ⟨rfl, rfl⟩
  go_wp2_with fail
  refine (hour_yes _ _ _ _ (by decide) (by decide) (by decide) (by decide) (by decide)).mono ?_
  rintro e w4 ⟨rfl, rfl⟩
  go_wp2_with fail
  refine (height_yes _ _ _ _ _ (by decide) (by decide) (by decide) (by decide) (by decide) (by decide) (by decide)).mono ?_
  rintro e w4 ⟨rfl, rfl⟩
  go_wp2_with fail
  refine (height_yes _ _ _ _ _ (by decide) (by decide) (by decide) (by decide) (by decide) (by decide) (by decide)).mono ?_
  rintro e w4 ⟨rfl, rfl⟩
  go_wp2_with fail
  refine (height_yes _ _ _ _ _ (by decide) (by decide) (by decide) (by decide) (by decide) (by decide) (by decide)).mono ?_
  rintro e w4 ⟨rfl, rfl⟩
  go_wp2_with fail
  refine (height_yes _ _ _ _ _ (by decide) (by decide) (by decide) (by decide) (by decide) (by decide) (by decide)).mono ?_
  rintro e w4 ⟨rfl, rfl⟩
  go_wp2_with fail
  refine (is_yes _ _ _ rfl).mono ?_
  rintro e w4 ⟨rfl, rfl⟩
  go_wp2_with fail
  refine (is_yes _ _ _ rfl).mono ?_
  rintro e w4 ⟨rfl, rfl⟩
  go_wp2_with fail
  refine (is_yes _ _ _ rfl).mono ?_
  rintro e w4 ⟨rfl, rfl⟩
  go_wp2_with fail
  refine (Spans_any A1 _ c1 2 [(0, 6), (93, 95)] [(0, 6), (93, 95)] _ ((HR1.out.call (ba (Below.refl _ _) _))) (.inr ⟨_, rfl, by simp, ?_⟩) (by simp) (by simp)).mono ?_
  · intro j hj
    match j, hj with
    | 0, _ => simp
    | 1, _ => simp
  rintro e w5 ⟨rfl, m, rfl⟩
  have HR4 := hid (HR3.out.call (bl (ba (Below.refl _ _) (.cells #[.int .i64 0, .int .i64 6, .int .i64 93, .int .i64 95] 39)) (dN _ m)))
  have HB4 := hid (bl HB.out (bl (ba (Below.refl _ _) (.cells #[.int .i64 0, .int .i64 6, .int .i64 93, .int .i64 95] 39)) (dN _ m)))
  clear HR1 HR3 HB
  obtain ⟨w6, hw6⟩ : ∃ w6, (w3.alloc (.cells #[.int .i64 0, .int .i64 6, .int .i64 93, .int .i64 95] 39)).drewN m = w6 := ⟨_, rfl⟩
  rw [hw6] at HR4 HB4 ⊢
  clear hw6
  go_wp2_with fail
  refine (Spans_any A3 _ c3 1 [(0, 95)] [(0, 95)] _ ((HR4.out.call (ba (Below.refl _ _) _))) (.inr ⟨_, rfl, by simp, ?_⟩) (by simp) (by simp)).mono ?_
  · intro j hj
    match j, hj with
    | 0, _ => simp
  rintro e w7 ⟨rfl, m2, rfl⟩
  go_wp2
  go_ret
  exact ⟨rfl, bl (ba HB4.out _) (dN _ _)⟩
end Go.Proofs.Ytpggggjohfbcdaa
