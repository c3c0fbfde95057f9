/- Lists of spans read: Spans, in; Windows with an error. -/
import Derived.Test.YtpggggjohfbcdaaA5
namespace Go.Proofs.Ytpggggjohfbcdaa
open Go.RowKit

theorem spanCells_length (l : List (Int × Int)) : (spanCells l).length = l.length * 2 := by
  induction l with
  | nil => rfl
  | cons p l ih => simp only [spanCells, List.flatMap_cons, List.length_append, List.length_cons, List.length_nil] at ih ⊢; omega
theorem spanCells_at (l : List (Int × Int)) (j : Nat) (h : j < l.length) : (spanCells l)[j * 2]? = some (.int .i64 l[j].1) ∧ (spanCells l)[j * 2 + 1]? = some (.int .i64 l[j].2) := by
  induction l generalizing j with
  | nil => simp at h
  | cons p l ih =>
    have e : spanCells (p :: l) = .int .i64 p.1 :: .int .i64 p.2 :: spanCells l := by simp [spanCells]
    cases j with
    | zero => rw [e]; exact ⟨rfl, rfl⟩
    | succ j =>
      have := ih j (by simpa using h)
      rw [e, show (j + 1) * 2 = j * 2 + 1 + 1 from by omega]
      simpa using this

/-- A slice of spans (nil let in) that reads as a list; its cells lie below block B. -/
def RowS (w : World) (B : Nat) (A : Option Addr) (l : List (Int × Int)) : Prop :=
  l = [] ∨ ∃ b, A = some ⟨b, 0, none⟩ ∧ b < B ∧ ∀ j, j < l.length → w.cell? ⟨b, j * 2, none⟩ = some (.int .i64 (l[j]?.getD (0, 0)).1) ∧ w.cell? ⟨b, j * 2 + 1, none⟩ = some (.int .i64 (l[j]?.getD (0, 0)).2)
theorem RowS.kept {w w' : World} {B : Nat} {A : Option Addr} {l : List (Int × Int)} (h : RowS w B A l) (hb : Below B w w') : RowS w' B A l := by
  rcases h with h | ⟨b, hA, hlt, hc⟩
  · exact .inl h
  · exact .inr ⟨b, hA, hlt, fun j hj => ⟨(hb.cell (by simpa using hlt)).trans (hc j hj).1, (hb.cell (by simpa using hlt)).trans (hc j hj).2⟩⟩
theorem RowS.more {w : World} {B B' : Nat} {A : Option Addr} {l : List (Int × Int)} (h : RowS w B A l) (hB : B ≤ B') : RowS w B' A l := by
  rcases h with h | ⟨b, hA, hlt, hc⟩
  · exact .inl h
  · exact .inr ⟨b, hA, by omega, hc⟩
theorem own_shapeS {w : World} {base : Nat} {v : Value} {n : Nat} {l : List (Int × Int)} (h : w.ownsRow base 39 2 v n (spanCells l)) : n = l.length ∧ ∃ A c, v = .slice A n c ∧ RowS w w.heap.size A l := by
  have hn : n = l.length := by have := h.1; rw [spanCells_length] at this; omega
  refine ⟨hn, ?_⟩
  rcases h.2 with ⟨rfl, h0⟩ | ⟨g, cap, cur, rfl, hb, hg, hr⟩
  · exact ⟨none, 0, by rw [h0], .inl (List.eq_nil_of_length_eq_zero (by omega))⟩
  · refine ⟨_, _, rfl, .inr ⟨g, rfl, (Array.getElem?_eq_some_iff.1 hg).1, fun j hj => ?_⟩⟩
    have e := spanCells_at l j hj
    rw [List.getElem?_eq_getElem hj]
    exact ⟨by rw [h.cellAt _ (by omega)]; exact e.1, by rw [h.cellAt _ (by omega)]; exact e.2⟩

set_option maxHeartbeats 800000 in
theorem in_any (A : Option Addr) (c : Nat) (l : List (Int × Int)) (k : Int) (w : World) (h : RowS w w.heap.size A l) (hl : l.length ≤ 1000000) :
    Calls Try.prog 22 #[.slice A l.length c, .int .i64 k] w fun e w' => e = .returned (.bool (l.any fun p => decide (p.1 ≤ k) && decide (k ≤ p.2))) ∧ w = w' := by
  rcases h with h | ⟨b, rfl, hb, g⟩
  · subst h
    go_enter Try.func22, Try.ntmps22
    go_wp2
    refine wp_loop_rounds 1 ?_
    rw [rounds_succ]
    go_wp2
    go_ret
    exact ⟨ret_bool (by simp), rfl⟩
  · obtain ⟨n, hn⟩ : ∃ n, n = l.length := ⟨_, rfl⟩
    rw [← hn] at hl g ⊢
    have HN := hid hn
    clear hn
    go_enter Try.func22, Try.ntmps22
    go_wp2
    go_loop [5] (fun i => ∃ j : Nat, j ≤ n ∧ i = .int .i64 j ∧ Hid ((l.take j).any (fun p => decide (p.1 ≤ k) && decide (k ≤ p.2)) = false)) (fun i => n - (intOf i).toNat)
    case atStart => exact ⟨0, Nat.zero_le _, rfl, by simp [Hid]⟩
    case round =>
      obtain ⟨j, hj, rfl, hall⟩ := hrel
      by_cases hlt : j < n
      · obtain ⟨g1, g2⟩ := g j hlt
        have hjl : j < l.length := by rw [← HN.out]; exact hlt
        rw [List.getElem?_eq_getElem hjl] at g1 g2
        simp only [Option.getD_some] at g1 g2
        obtain ⟨p, hp⟩ : ∃ p, l[j] = p := ⟨_, rfl⟩
        rw [hp] at g1 g2
        have HP := hid hp
        clear hp g
        have hno : ¬ (p.1 ≤ k ∧ k ≤ p.2) → Hid ((l.take (j + 1)).any (fun p => decide (p.1 ≤ k) && decide (k ≤ p.2)) = false) := by
          intro hh
          unfold Hid
          rw [List.take_succ_eq_append_getElem hjl, List.any_append, hall.out, HP.out]
          simp only [List.any_cons, List.any_nil, Bool.or_false, Bool.false_or]
          rw [Bool.and_eq_false_iff]
          simp only [decide_eq_false_iff_not]
          omega
        have HNO := hid hno
        clear hno hall
        by_cases h1 : p.1 ≤ k
        · by_cases h2 : k ≤ p.2
          · go_wp2
            go_ret
            refine ⟨ret_bool ?_, rfl⟩
            symm
            rw [List.any_eq_true]
            exact ⟨p, HP.out ▸ List.getElem_mem hjl, by simp [h1, h2]⟩
          · go_wp2
            go_round
            case rel => exact ⟨j + 1, by omega, by go_num, HNO.out (by omega)⟩
            case measure => simp [intOf]; omega
        · go_wp2
          go_round
          case rel => exact ⟨j + 1, by omega, by go_num, HNO.out (by omega)⟩
          case measure => simp [intOf]; omega
      · go_wp2
        go_ret
        refine ⟨ret_bool ?_, rfl⟩
        have := hall.out
        rw [List.take_of_length_le (by rw [← HN.out]; omega)] at this
        exact this.symm

@[go_sem] theorem eq39 (a b c d : Int) (w : World) : (Op.equalIn 10000 39 (.agg #[.int .i64 a, .int .i64 b]) (.agg #[.int .i64 c, .int .i64 d])).run Try.prog w = .ok (a == c && b == d) w := by
  have u3 := Try.underlying3
  have a3 := Try.isAgg3
  have z3 := Try.sizeOf3
  have hS : Try.prog.underlying 39 = some (.struct (Try.prog.fieldsOf 39)) := by kernel_rfl
  have hp : Try.prog.stoodInHeld 39 = false := by kernel_rfl
  rw [show (10000 : Nat) = 9999 + 1 from rfl, run_equalIn_agg w 9999 39 _ _ hS hp]
  simp only [Program.fieldsOf, Try.underlying39]
  go_simp
  by_cases h1 : a = c <;> by_cases h2 : b = d <;> simp [h1, h2]

theorem take_eq_succS {xs ys : List (Int × Int)} {k : Nat} (hk : k < xs.length) (hk' : k < ys.length) : xs.take (k + 1) = ys.take (k + 1) ↔ xs.take k = ys.take k ∧ xs[k] = ys[k] := by
  rw [List.take_succ_eq_append_getElem hk, List.take_succ_eq_append_getElem hk']
  constructor
  · intro h
    have := List.append_inj h (by simp; omega)
    exact ⟨this.1, by simpa using this.2⟩
  · rintro ⟨h1, h2⟩; rw [h1, h2]

set_option maxHeartbeats 800000 in
theorem Spans_any (A1 A2 : Option Addr) (c1 c2 : Nat) (xs ys : List (Int × Int)) (w : World) (h1 : RowS w w.heap.size A1 xs) (h2 : RowS w w.heap.size A2 ys) (hx : xs.length ≤ 1000000) (hy : ys.length ≤ 1000000) :
    Calls Try.prog 19 #[.slice A1 xs.length c1, .slice A2 ys.length c2] w fun e w' => e = .returned (.bool (decide (xs = ys))) ∧ ∃ m, w' = w.drewN m := by
  by_cases hl : xs.length = ys.length
  · have HL := hid hl
    by_cases h0 : xs = []
    · subst h0
      have : ys = [] := List.eq_nil_of_length_eq_zero (by simpa using hl.symm)
      subst this
      clear h1 h2 hl HL
      go_enter Try.func19, Try.ntmps19
      go_wp2
      refine wp_loop_rounds 1 ?_
      rw [rounds_succ]
      go_wp2
      go_ret
      exact ⟨ret_bool (by simp), 0, rfl⟩
    · rcases h1 with h1 | ⟨b1, rfl, hb1, g1⟩
      · exact absurd h1 h0
      rcases h2 with h2 | ⟨b2, rfl, hb2, g2⟩
      · exact absurd (List.eq_nil_of_length_eq_zero (by rw [hl, h2]; rfl)) h0
      rw [← hl]
      clear hl h0
      obtain ⟨n, hn⟩ : ∃ n, n = xs.length := ⟨_, rfl⟩
      rw [← hn]
      have HN := hid hn
      rw [← hn] at hx g1
      rw [← HL.out, ← hn] at hy g2
      clear hn
      go_enter Try.func19, Try.ntmps19
      go_wp2
      go_loopw [5] (fun i wr => ∃ k m : Nat, k ≤ n ∧ i = .int .i64 k ∧ wr = w.drewN m ∧ Hid (xs.take k = ys.take k)) (fun i _ => n - (intOf i).toNat)
      case atStart => exact ⟨0, 0, Nat.zero_le _, rfl, rfl, by simp [Hid]⟩
      case round =>
        obtain ⟨k, m, hk, rfl, rfl, heq⟩ := hrel
        by_cases hlt : k < n
        · obtain ⟨e1, f1⟩ := g1 k hlt
          obtain ⟨e2, f2⟩ := g2 k hlt
          have hk1 : k < xs.length := by rw [← HN.out]; exact hlt
          have hk2 : k < ys.length := by rw [← HL.out, ← HN.out]; exact hlt
          rw [List.getElem?_eq_getElem hk1] at e1 f1
          rw [List.getElem?_eq_getElem hk2] at e2 f2
          simp only [Option.getD_some] at e1 e2 f1 f2
          generalize hz1 : xs[k] = z1 at e1 f1
          generalize hz2 : ys[k] = z2 at e2 f2
          have HT := hid (take_eq_succS hk1 hk2)
          rw [hz1, hz2] at HT
          clear g1 g2 hz1 hz2
          obtain ⟨p1, q1⟩ := z1
          obtain ⟨p2, q2⟩ := z2
          dsimp only at e1 f1 e2 f2
          by_cases hp : p1 = p2
          · by_cases hq : q1 = q2
            · subst hp hq
              go_wp2
              go_quiet (fail)
              go_wp2
              go_roundw
              case rel => exact ⟨k + 1, _, by omega, by go_num, rfl, HT.out.2 ⟨heq.out, trivial⟩⟩
              case measure => simp [intOf]; omega
            · subst hp
              have eq2 : (q1 == q2) = false := by simpa using hq
              go_wp2
              go_quiet (fail)
              go_wp2
              go_ret
              refine ⟨ret_bool ?_, _, World.drewN_drewN _ _ _⟩
              symm
              rw [decide_eq_false_iff_not]
              intro h
              have := (HT.out.1 (by rw [h])).2
              exact hq (Prod.mk.inj this).2
          · have eq1 : (p1 == p2) = false := by simpa using hp
            go_wp2
            go_quiet (fail)
            go_wp2
            go_ret
            refine ⟨ret_bool ?_, _, World.drewN_drewN _ _ _⟩
            symm
            rw [decide_eq_false_iff_not]
            intro h
            have := (HT.out.1 (by rw [h])).2
            exact hp (Prod.mk.inj this).1
        · obtain rfl : k = n := by omega
          go_wp2
          go_ret
          refine ⟨ret_bool ?_, _, rfl⟩
          symm
          rw [decide_eq_true_iff]
          have := heq.out
          rwa [List.take_of_length_le (by rw [HN.out]; exact Nat.le_refl _), List.take_of_length_le (by rw [← HL.out, HN.out]; exact Nat.le_refl _)] at this
  · go_enter Try.func19, Try.ntmps19
    go_wp2
    go_ret
    exact ⟨ret_bool (by symm; rw [decide_eq_false_iff_not]; intro h; exact hl (by rw [h])), 0, rfl⟩

set_option maxHeartbeats 800000 in
theorem Windows_err (s t night least : Int) (w : World) (h : ¬ (0 ≤ s ∧ s < 16 ∧ 0 ≤ t ∧ t < 512 ∧ 0 ≤ night ∧ night < 400)) :
    Calls Try.prog 17 #[.int .i64 s, .int .i64 t, .int .i64 night, .int .i64 least] w fun e W' =>
      e = .returned (.tuple #[.slice none 0 0, .int .i64 1]) ∧ Below w.heap.size w W' := by
  by_cases he : exB s t = true
  · have h' := exB_of.1 he
    by_cases hn : 0 ≤ night
    · have hn2 : 400 ≤ night := by omega
      clear h
      go_enter Try.func17, Try.ntmps17
      go_wp2_with fail
      refine (exists_any _ _ _).mono ?_
      rintro e w1 ⟨rfl, rfl⟩
      go_wp2
      go_ret2
      exact ⟨rfl, (Below.refl _ _).alloc (Nat.le_refl _) _⟩
    · clear h
      go_enter Try.func17, Try.ntmps17
      go_wp2_with fail
      refine (exists_any _ _ _).mono ?_
      rintro e w1 ⟨rfl, rfl⟩
      go_wp2
      go_ret2
      exact ⟨rfl, (Below.refl _ _).alloc (Nat.le_refl _) _⟩
  · have he : exB s t = false := by simpa using he
    clear h
    go_enter Try.func17, Try.ntmps17
    go_wp2_with fail
    refine (exists_any _ _ _).mono ?_
    rintro e w1 ⟨rfl, rfl⟩
    go_wp2
    go_ret2
    exact ⟨rfl, (Below.refl _ _).alloc (Nat.le_refl _) _⟩
end Go.Proofs.Ytpggggjohfbcdaa
