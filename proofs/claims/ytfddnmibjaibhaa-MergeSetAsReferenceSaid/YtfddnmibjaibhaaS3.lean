/- Contracts of the reference of the sky, and of small functions of its law file. -/
import Derived.Test.YtfddnmibjaibhaaS2
namespace Go.Proofs.Ytfddnmibjaibhaa
open Go.RowKit

/-- A slice (nil let in) that reads as a list of ints; its cells lie below block B. -/
def RowI (w : World) (B : Nat) (A : Option Addr) (xs : List Int) : Prop :=
  xs = [] ∨ ∃ b, A = some ⟨b, 0, none⟩ ∧ b < B ∧ ∀ j, j < xs.length → w.cell? ⟨b, j, none⟩ = some (.int .i64 (xs[j]?.getD 0))

theorem RowI.kept {w w' : World} {B : Nat} {A : Option Addr} {xs : List Int} (h : RowI w B A xs) (hb : Below B w w') : RowI w' B A xs := by
  rcases h with h | ⟨b, hA, hlt, hc⟩
  · exact .inl h
  · exact .inr ⟨b, hA, hlt, fun j hj => (hb.cell (by simpa using hlt)).trans (hc j hj)⟩
theorem RowI.more {w : World} {B B' : Nat} {A : Option Addr} {xs : List Int} (h : RowI w B A xs) (hB : B ≤ B') : RowI w B' A xs := by
  rcases h with h | ⟨b, hA, hlt, hc⟩
  · exact .inl h
  · exact .inr ⟨b, hA, by omega, hc⟩

theorem own_shape {w : World} {base : Nat} {v : Value} {n : Nat} {xs : List Int} (h : w.ownsRow base 3 1 v n (xs.map (Value.int .i64))) : n = xs.length ∧ ∃ A c, v = .slice A n c ∧ RowI w w.heap.size A xs := by
  have hn : n = xs.length := by have := h.1; simp at this; exact this.symm
  refine ⟨hn, ?_⟩
  rcases h.2 with ⟨rfl, h0⟩ | ⟨g, cap, cur, rfl, hb, hg, hr⟩
  · exact ⟨none, 0, by rw [h0], .inl (List.eq_nil_of_length_eq_zero (by omega))⟩
  · refine ⟨_, _, rfl, .inr ⟨g, rfl, (Array.getElem?_eq_some_iff.1 hg).1, fun j hj => ?_⟩⟩
    have := h.cells (g := g) rfl j (.int .i64 (xs[j]?.getD 0)) (by simp [List.getElem?_eq_getElem hj])
    have hadd : (⟨g, 0, none⟩ : Addr).add j = ⟨g, j, none⟩ := by unfold Addr.add; split <;> simp_all
    rwa [hadd] at this

theorem ret_ie {a b : Int} {x : Value} (h : a = b) : Ending.returned (.tuple #[.int .i64 a, x]) = .returned (.tuple #[.int .i64 b, x]) := by rw [h]
theorem nv_eq (l : List Nat) : nv l = (l.map fun i : Nat => (i : Int)).map (Value.int .i64) := by simp [nv]

theorem take_eq_succ {xs ys : List Int} {k : Nat} (hk : k < xs.length) (hk' : k < ys.length) : xs.take (k + 1) = ys.take (k + 1) ↔ xs.take k = ys.take k ∧ xs[k] = ys[k] := by
  rw [List.take_succ_eq_append_getElem hk, List.take_succ_eq_append_getElem hk']
  constructor
  · intro h
    have := List.append_inj h (by simp; omega)
    exact ⟨this.1, by simpa using this.2⟩
  · rintro ⟨h1, h2⟩; rw [h1, h2]

set_option maxHeartbeats 800000 in
theorem Ints_any (A1 A2 : Option Addr) (c1 c2 : Nat) (xs ys : List Int) (w : World) (h1 : RowI w w.heap.size A1 xs) (h2 : RowI w w.heap.size A2 ys) (hx : xs.length ≤ 1000000) (hy : ys.length ≤ 1000000) :
    Calls Try.prog 25 #[.slice A1 xs.length c1, .slice A2 ys.length c2] w fun e w' => e = .returned (.bool (decide (xs = ys))) ∧ ∃ m, w' = w.drewN m := by
  by_cases hl : xs.length = ys.length
  · have HL := hid hl
    by_cases h0 : xs = []
    · subst h0
      have : ys = [] := List.eq_nil_of_length_eq_zero (by simpa using hl.symm)
      subst this
      clear h1 h2 hl HL
      go_enter Try.func25, Try.ntmps25
      go_wp2
      refine wp_loop_rounds 1 ?_
      rw [rounds_succ]
      go_wp2
      go_ret
      exact ⟨ret_bool (by simp), 0, rfl⟩
    · rcases h1 with h1 | ⟨b1, rfl, hb1, g1⟩
      · exact absurd h1 h0
      rcases h2 with h2 | ⟨b2, rfl, hb2, g2⟩
      · exact absurd (List.eq_nil_of_length_eq_zero (by rw [hl, h2]; rfl)) h0
      rw [← hl]
      clear hl h0
      obtain ⟨n, hn⟩ : ∃ n, n = xs.length := ⟨_, rfl⟩
      rw [← hn]
      have HN := hid hn
      rw [← hn] at hx g1
      rw [← HL.out, ← hn] at hy g2
      clear hn
      go_enter Try.func25, Try.ntmps25
      go_wp2
      go_loopw [5] (fun i wr => ∃ k m : Nat, k ≤ n ∧ i = .int .i64 k ∧ wr = w.drewN m ∧ Hid (xs.take k = ys.take k)) (fun i _ => n - (intOf i).toNat)
      case atStart => exact ⟨0, 0, Nat.zero_le _, rfl, rfl, by simp [Hid]⟩
      case round =>
        obtain ⟨k, m, hk, rfl, rfl, heq⟩ := hrel
        by_cases hlt : k < n
        · have e1 := g1 k hlt
          have e2 := g2 k hlt
          have hk1 : k < xs.length := by rw [← HN.out]; exact hlt
          have hk2 : k < ys.length := by rw [← HL.out, ← HN.out]; exact hlt
          rw [List.getElem?_eq_getElem hk1] at e1
          rw [List.getElem?_eq_getElem hk2] at e2
          simp only [Option.getD_some] at e1 e2
          generalize hz1 : xs[k] = z1 at e1
          generalize hz2 : ys[k] = z2 at e2
          have HT := hid (take_eq_succ hk1 hk2)
          rw [hz1, hz2] at HT
          clear g1 g2 hz1 hz2
          by_cases hz : z1 = z2
          · subst hz
            go_wp2
            go_quiet (fail)
            go_wp2
            go_roundw
            case rel => exact ⟨k + 1, _, by omega, by go_num, rfl, HT.out.2 ⟨heq.out, trivial⟩⟩
            case measure => simp [intOf]; omega
          · go_wp2
            go_quiet (fail)
            go_wp2
            go_ret
            refine ⟨ret_bool ?_, ?_⟩
            · symm
              rw [decide_eq_false_iff_not]
              intro h
              exact hz (HT.out.1 (by rw [h])).2
            · exact ⟨_, World.drewN_drewN _ _ _⟩
        · obtain rfl : k = n := by omega
          go_wp2
          go_ret
          refine ⟨ret_bool ?_, _, rfl⟩
          symm
          rw [decide_eq_true_iff]
          have := heq.out
          rwa [List.take_of_length_le (by rw [HN.out]; exact Nat.le_refl _), List.take_of_length_le (by rw [← HL.out, HN.out]; exact Nat.le_refl _)] at this
  · go_enter Try.func25, Try.ntmps25
    go_wp2
    go_ret
    exact ⟨ret_bool (by symm; rw [decide_eq_false_iff_not]; intro h; exact hl (by rw [h])), 0, rfl⟩

set_option maxHeartbeats 400000 in
theorem place_any (x y : Int) (w : World) (h0 : 0 ≤ x) (h1 : x < 65536) (h2 : 0 ≤ y) (h3 : y < 65536) :
    Calls Try.prog 26 #[.int .u16 x, .int .u16 y] w fun e w' => e = .returned (.agg #[.int .i64 (x % 5760), .int .i64 (y % 2880)]) ∧ Below w.heap.size w w' := by
  go_enter Try.func26, Try.ntmps26
  go_wp2
  exact bodyPost_ret (v := .agg #[.int .i64 (x % 5760), .int .i64 (y % 2880)]) (by simp [results, Try.results26, go_sem]) rfl ⟨rfl, ba (Below.refl _ _) _⟩

set_option maxHeartbeats 400000 in
theorem moved_any (t by_ : Int) (b : Nat) (w : World) (h0 : 0 ≤ t) (h1 : t < 512) (h2 : 0 ≤ by_) (h3 : by_ < 256) (hc : w.cell? ⟨b, 0, none⟩ = some (.int .u8 by_)) :
    Calls Try.prog 27 #[.int .i64 t, .pointer (some ⟨b, 0, none⟩)] w fun e w' => e = .returned (.int .i64 (t / 32 * 32 + (t % 32 + by_) % 32)) ∧ w = w' := by
  go_enter Try.func27, Try.ntmps27
  go_wp2
  go_ret
  exact ⟨ret_int (by omega), rfl⟩

set_option maxHeartbeats 800000 in
theorem rvalid_any (x y : Int) (w : World) :
    Calls Try.prog 44 #[.agg #[.int .i64 x, .int .i64 y]] w fun e w' => e = .returned (.bool (posB x y)) ∧ Below w.heap.size w w' := by
  by_cases a : 0 ≤ x
  · by_cases b : x < 5760
    · by_cases c : 0 ≤ y
      · by_cases d : y < 2880
        all_goals
          go_enter Try.func44, Try.ntmps44
          go_wp2
          go_ret
          exact ⟨ret_bool (by simp [posB, a, b, c, d]), (Below.refl _ _).alloc (Nat.le_refl _) _⟩
      · go_enter Try.func44, Try.ntmps44
        go_wp2
        go_ret
        exact ⟨ret_bool (posB_not.2 (by omega)).symm, (Below.refl _ _).alloc (Nat.le_refl _) _⟩
    · go_enter Try.func44, Try.ntmps44
      go_wp2
      go_ret
      exact ⟨ret_bool (posB_not.2 (by omega)).symm, (Below.refl _ _).alloc (Nat.le_refl _) _⟩
  · go_enter Try.func44, Try.ntmps44
    go_wp2
    go_ret
    exact ⟨ret_bool (posB_not.2 (by omega)).symm, (Below.refl _ _).alloc (Nat.le_refl _) _⟩

set_option maxHeartbeats 800000 in
theorem rtile_ok (x y : Int) (w : World) (h : posB x y = true) :
    Calls Try.prog 16 #[.agg #[.int .i64 x, .int .i64 y]] w fun e w' => e = .returned (.tuple #[.int .i64 (32 * (y / 180) + x / 180), .int .i64 0]) ∧ Below w.heap.size w w' := by
  obtain ⟨h0, h1, h2, h3⟩ := posB_of.1 h
  go_enter Try.func16, Try.ntmps16
  go_wp2_with fail
  refine (rvalid_any _ _ _).mono ?_
  rintro e w' ⟨rfl, hb⟩
  obtain ⟨hc, hf⟩ := bcell hb
  have hz : w.heap.size < w'.heap.size := by have := hb.size; simp at this; omega
  go_wp2
  go_ret2
  exact ⟨rfl, bl (ba (Below.refl _ _) _) hb⟩

set_option maxHeartbeats 800000 in
theorem rtile_err (x y : Int) (w : World) (h : posB x y = false) :
    Calls Try.prog 16 #[.agg #[.int .i64 x, .int .i64 y]] w fun e w' => e = .returned (.tuple #[.int .i64 0, .int .i64 1]) ∧ Below w.heap.size w w' := by
  go_enter Try.func16, Try.ntmps16
  go_wp2_with fail
  refine (rvalid_any _ _ _).mono ?_
  rintro e w' ⟨rfl, hb⟩
  go_wp2
  go_ret2
  exact ⟨rfl, bl (ba (Below.refl _ _) _) hb⟩

set_option maxHeartbeats 800000 in
theorem rcell_ok (x y : Int) (w : World) (h : posB x y = true) :
    Calls Try.prog 18 #[.agg #[.int .i64 x, .int .i64 y]] w fun e w' => e = .returned (.tuple #[.int .i64 (2 * (y % 180 / 90) + x % 180 / 90), .int .i64 0]) ∧ Below w.heap.size w w' := by
  obtain ⟨h0, h1, h2, h3⟩ := posB_of.1 h
  go_enter Try.func18, Try.ntmps18
  go_wp2_with fail
  refine (rvalid_any _ _ _).mono ?_
  rintro e w' ⟨rfl, hb⟩
  obtain ⟨hc, hf⟩ := bcell hb
  have hz : w.heap.size < w'.heap.size := by have := hb.size; simp at this; omega
  go_wp2
  go_ret2
  exact ⟨rfl, bl (ba (Below.refl _ _) _) hb⟩

set_option maxHeartbeats 800000 in
theorem rcell_err (x y : Int) (w : World) (h : posB x y = false) :
    Calls Try.prog 18 #[.agg #[.int .i64 x, .int .i64 y]] w fun e w' => e = .returned (.tuple #[.int .i64 0, .int .i64 1]) ∧ Below w.heap.size w w' := by
  go_enter Try.func18, Try.ntmps18
  go_wp2_with fail
  refine (rvalid_any _ _ _).mono ?_
  rintro e w' ⟨rfl, hb⟩
  go_wp2
  go_ret2
  exact ⟨rfl, bl (ba (Below.refl _ _) _) hb⟩

set_option maxHeartbeats 800000 in
theorem ris_any (n : Int) (w : World) :
    Calls Try.prog 48 #[.int .i64 n] w fun e w' => e = .returned (.bool (isT n)) ∧ w = w' := by
  by_cases a : 0 ≤ n
  · by_cases b : n < 512
    all_goals
      go_enter Try.func48, Try.ntmps48
      go_wp2
      go_ret
      exact ⟨ret_bool (by simp [isT, a, b]), rfl⟩
  · go_enter Try.func48, Try.ntmps48
    go_wp2
    go_ret
    exact ⟨ret_bool (isT_not.2 (by omega)).symm, rfl⟩

set_option maxHeartbeats 800000 in
theorem rcentre_ok (a : Int) (w : World) (h0 : 0 ≤ a) (h1 : a < 512) :
    Calls Try.prog 20 #[.int .i64 a] w fun e w' => e = .returned (.tuple #[.agg #[.int .i64 (a % 32 * 180 + 90), .int .i64 (a / 32 * 180 + 90)], .int .i64 0]) ∧ Below w.heap.size w w' := by
  have ht : isT a = true := isT_of.2 ⟨h0, h1⟩
  go_enter Try.func20, Try.ntmps20
  go_wp2_with fail
  refine (ris_any _ _).mono ?_
  rintro e w1 ⟨rfl, rfl⟩
  go_wp2
  exact bodyPost_ret (v := .tuple #[.agg #[.int .i64 (a % 32 * 180 + 90), .int .i64 (a / 32 * 180 + 90)], .int .i64 0]) (by simp [results, Try.results20, go_sem]) rfl
    ⟨rfl, ba (Below.refl _ _) _⟩

set_option maxHeartbeats 800000 in
theorem rcentre_err (a : Int) (w : World) (h : isT a = false) :
    Calls Try.prog 20 #[.int .i64 a] w fun e w' => e = .returned (.tuple #[.agg #[.int .i64 0, .int .i64 0], .int .i64 1]) ∧ Below w.heap.size w w' := by
  go_enter Try.func20, Try.ntmps20
  go_wp2_with fail
  refine (ris_any _ _).mono ?_
  rintro e w1 ⟨rfl, rfl⟩
  go_wp2
  exact bodyPost_ret (v := .tuple #[.agg #[.int .i64 0, .int .i64 0], .int .i64 1]) (by simp [results, Try.results20, go_sem]) rfl
    ⟨rfl, ba (Below.refl _ _) _⟩

set_option maxHeartbeats 800000 in
theorem around_any (a b : Int) (w : World) (h0 : 0 ≤ a) (h1 : a < 32) (h2 : 0 ≤ b) (h3 : b < 32) :
    Calls Try.prog 50 #[.int .i64 a, .int .i64 b] w fun e w' => e = .returned (.int .i64 (cdI a b)) ∧ w = w' := by
  by_cases x : a - b < 0
  · by_cases y : 16 < 0 - (a - b)
    all_goals
      go_enter Try.func50, Try.ntmps50
      go_wp2
      go_ret
      exact ⟨ret_int (by unfold cdI; omega), rfl⟩
  · by_cases y : 16 < a - b
    all_goals
      go_enter Try.func50, Try.ntmps50
      go_wp2
      go_ret
      exact ⟨ret_int (by unfold cdI; omega), rfl⟩

set_option maxHeartbeats 800000 in
theorem rDistance_ok (a b : Int) (w : World) (h0 : 0 ≤ a) (h1 : a < 512) (h2 : 0 ≤ b) (h3 : b < 512) :
    Calls Try.prog 22 #[.int .i64 a, .int .i64 b] w fun e w' => e = .returned (.tuple #[.int .i64 (dist a b), .int .i64 0]) ∧ w = w' := by
  have ht : isT a = true := isT_of.2 ⟨h0, h1⟩
  have ht' : isT b = true := isT_of.2 ⟨h2, h3⟩
  by_cases x : a / 32 - b / 32 < 0
  all_goals
    go_enter Try.func22, Try.ntmps22
    go_wp2_with fail
    refine (ris_any _ _).mono ?_
    rintro e w1 ⟨rfl, rfl⟩
    go_wp2_with fail
    refine (ris_any _ _).mono ?_
    rintro e w1 ⟨rfl, rfl⟩
    go_wp2_with fail
    refine (around_any _ _ _ (by omega) (by omega) (by omega) (by omega)).mono ?_
    rintro e w1 ⟨rfl, rfl⟩
    go_wp2
    all_goals
      go_ret2
      exact ⟨ret_ie (by rw [dist_eq]; unfold bdI; omega), rfl⟩

set_option maxHeartbeats 800000 in
theorem rDistance_err (a b : Int) (w : World) (h : (isT a && isT b) = false) :
    Calls Try.prog 22 #[.int .i64 a, .int .i64 b] w fun e w' => e = .returned (.tuple #[.int .i64 0, .int .i64 1]) ∧ w = w' := by
  by_cases ht : isT a = true
  · have ht' : isT b = false := by simpa [ht] using h
    have H := hid h
    clear h
    go_enter Try.func22, Try.ntmps22
    go_wp2_with fail
    refine (ris_any _ _).mono ?_
    rintro e w1 ⟨rfl, rfl⟩
    go_wp2_with fail
    refine (ris_any _ _).mono ?_
    rintro e w1 ⟨rfl, rfl⟩
    go_wp2
    go_ret2
    exact ⟨rfl, rfl⟩
  · have ht : isT a = false := by simpa using ht
    have H := hid h
    clear h
    go_enter Try.func22, Try.ntmps22
    go_wp2_with fail
    refine (ris_any _ _).mono ?_
    rintro e w1 ⟨rfl, rfl⟩
    go_wp2
    go_ret2
    exact ⟨rfl, rfl⟩

set_option maxHeartbeats 1600000 in
set_option maxRecDepth 100000 in
theorem rNear_ok (a r : Int) (w : World) (h0 : 0 ≤ a) (h1 : a < 512) (h2 : 0 ≤ r) (h3 : r < 32) :
    Calls Try.prog 24 #[.int .i64 a, .int .i64 r] w fun e w' => ∃ v, e = .returned (.tuple #[v, .int .i64 0]) ∧ w'.ownsRow w.heap.size 3 1 v (near a r 512).length (nv (near a r 512)) ∧ Below w.heap.size w w' := by
  have ht : isT a = true := isT_of.2 ⟨h0, h1⟩
  go_enter Try.func24, Try.ntmps24
  go_wp2_with fail
  refine (ris_any _ _).mono ?_
  rintro e w1 ⟨rfl, rfl⟩
  go_wp2_with fail
  go_loopw [6, 7] (fun v i wr => ∃ k : Nat, k ≤ 512 ∧ i = .int .i64 k ∧ wr.ownsRow w.heap.size 3 1 v (near a r k).length (nv (near a r k)) ∧ Below w.heap.size w wr)
    (fun _ i _ => 512 - (intOf i).toNat)
  case atStart => exact ⟨0, Nat.zero_le _, rfl, World.ownsRow_nil _ _ _ _, Below.refl _ _⟩
  case round =>
    obtain ⟨k, hk, rfl, hown, hbel⟩ := hrel
    by_cases hlt : k < 512
    · have hle := near_le a r k
      go_wp2_with fail
      refine (rDistance_ok _ _ _ h0 h1 (by omega) (by omega)).mono ?_
      rintro e w2 ⟨rfl, rfl⟩
      by_cases hd : dist a k ≤ r
      · go_wp2_with (at_builtin; refine wp_app_int rfl _ _ rfl w.heap.size _ _ _ rfl (hown.alloc _) _ _ k rfl (by simp) (by omega) (by have := hbel.size; simp; omega) ?_)
        intro v' w3 hown' hgrow _
        have hlt' := hown.lt
        have hb3 : Below w.heap.size w w3 := (ba hbel _).grown hgrow ((ba hbel _).size) (fun g hg => (hlt' g hg).1)
        have hown3 : w3.ownsRow w.heap.size 3 1 v' (near a r (k + 1)).length (nv (near a r (k + 1))) := by
          rw [near_succ_yes a r k hd]; simpa [nv] using hown'
        clear hown' hgrow hown hlt'
        go_wp2
        go_roundw
        case rel => exact ⟨k + 1, by omega, by go_num, hown3, hb3⟩
        case measure => simp [intOf]; omega
      · have hown3 : wr.ownsRow w.heap.size 3 1 u6 (near a r (k + 1)).length (nv (near a r (k + 1))) := by
          rw [near_succ_no a r k hd]; exact hown
        clear hown
        go_wp2
        go_roundw
        case rel => exact ⟨k + 1, by omega, by go_num, hown3, hbel⟩
        case measure => simp [intOf]; omega
    · obtain rfl : k = 512 := by omega
      go_wp2
      go_ret2
      exact ⟨_, rfl, hown, hbel⟩

set_option maxHeartbeats 1600000 in
theorem rNear_err (a r : Int) (w : World) (h : ¬ (0 ≤ a ∧ a < 512 ∧ 0 ≤ r ∧ r < 32)) :
    Calls Try.prog 24 #[.int .i64 a, .int .i64 r] w fun e w' => e = .returned (.tuple #[.slice none 0 0, .int .i64 1]) ∧ Below w.heap.size w w' := by
  by_cases ht : isT a = true
  · have h' := isT_of.1 ht
    by_cases hr : 0 ≤ r
    · have hr2 : ¬ r < 32 := by omega
      have hr3 : 31 < r := by omega
      go_enter Try.func24, Try.ntmps24
      go_wp2_with fail
      refine (ris_any _ _).mono ?_
      rintro e w1 ⟨rfl, rfl⟩
      go_wp2
      go_ret2
      exact ⟨rfl, Below.refl _ _⟩
    · go_enter Try.func24, Try.ntmps24
      go_wp2_with fail
      refine (ris_any _ _).mono ?_
      rintro e w1 ⟨rfl, rfl⟩
      go_wp2
      go_ret2
      exact ⟨rfl, Below.refl _ _⟩
  · have ht : isT a = false := by simpa using ht
    go_enter Try.func24, Try.ntmps24
    go_wp2_with fail
    refine (ris_any _ _).mono ?_
    rintro e w1 ⟨rfl, rfl⟩
    go_wp2
    go_ret2
    exact ⟨rfl, Below.refl _ _⟩
end Go.Proofs.Ytfddnmibjaibhaa
