/- Contracts of package sky over tiles: is, split, distance, Distance, Centre. -/
import Derived.Test.YtfddnmibjaibhaaS1
namespace Go.Proofs.Ytfddnmibjaibhaa
open Go.RowKit

/-- a number is a tile -/
def isT (n : Int) : Bool := decide (0 ≤ n) && decide (n < 512)
theorem isT_of {n : Int} : isT n = true ↔ (0 ≤ n ∧ n < 512) := by unfold isT; simp
theorem isT_not {n : Int} : isT n = false ↔ ¬ (0 ≤ n ∧ n < 512) := by rw [← isT_of]; simp

set_option maxHeartbeats 800000 in
theorem is_any (b cap : Nat) (zs : List Int) (w : World) (hlen : zs.length ≤ 100) (hc : ∀ j, j < zs.length → w.cell? ⟨b, j, none⟩ = some (.int .i64 (zs.getD j 0))) :
    Calls Try.prog 46 #[.slice (some ⟨b, 0, none⟩) zs.length cap] w fun e w' => e = .returned (.bool (zs.all isT)) ∧ w = w' := by
  go_enter Try.func46, Try.ntmps46
  go_wp2
  go_loop [7] (fun i => ∃ k : Nat, k ≤ zs.length ∧ i = .int .i64 k ∧ (zs.take k).all isT = true) (fun i => zs.length - (intOf i).toNat)
  case atStart => exact ⟨0, Nat.zero_le _, rfl, by simp⟩
  case round =>
    obtain ⟨k, hk, rfl, hall⟩ := hrel
    have HALL := hid hall; clear hall
    by_cases hlt : k < zs.length
    · have hcell := hc k hlt
      rw [List.getD_eq_getElem?_getD, List.getElem?_eq_getElem hlt] at hcell
      simp only [Option.getD_some] at hcell
      generalize hzk : zs[k] = z at hcell
      have HZ := hid hzk; clear hzk hc
      by_cases h0 : 0 ≤ z
      · by_cases h1 : z < 512
        · go_wp2
          go_round
          case rel =>
            refine ⟨k + 1, by omega, by go_num, ?_⟩
            rw [List.take_succ_eq_append_getElem hlt, List.all_append, HALL.out, HZ.out]
            simp [isT, h0, h1]
          case measure => simp [intOf]; omega
        · go_wp2
          go_ret
          refine ⟨ret_bool ?_, rfl⟩
          symm
          rw [List.all_eq_false]
          exact ⟨z, HZ.out ▸ List.getElem_mem hlt, by rw [isT_not.2 (by omega)]; simp⟩
      · go_wp2
        go_ret
        refine ⟨ret_bool ?_, rfl⟩
        symm
        rw [List.all_eq_false]
        exact ⟨z, HZ.out ▸ List.getElem_mem hlt, by rw [isT_not.2 (by omega)]; simp⟩
    · go_wp2
      go_ret
      refine ⟨ret_bool ?_, rfl⟩
      have := HALL.out
      rw [List.take_of_length_le (by omega)] at this
      exact this.symm


theorem is_one (b cap : Nat) (n : Int) (w : World) (hc : w.cell? ⟨b, 0, none⟩ = some (.int .i64 n)) :
    Calls Try.prog 46 #[.slice (some ⟨b, 0, none⟩) 1 cap] w fun e w' => e = .returned (.bool (isT n)) ∧ w = w' :=
  (is_any b cap [n] w (by simp) (fun j hj => by
    have : j = 0 := by simpa using hj
    subst this; simpa using hc)).mono fun e w' ⟨he, hw⟩ => ⟨by rw [he]; exact ret_bool (by simp), hw⟩

theorem is_two (b cap : Nat) (n m : Int) (w : World) (hc : w.cell? ⟨b, 0, none⟩ = some (.int .i64 n)) (hc1 : w.cell? ⟨b, 1, none⟩ = some (.int .i64 m)) :
    Calls Try.prog 46 #[.slice (some ⟨b, 0, none⟩) 2 cap] w fun e w' => e = .returned (.bool (isT n && isT m)) ∧ w = w' :=
  (is_any b cap [n, m] w (by simp) (fun j hj => by
    have : j = 0 ∨ j = 1 := by simp at hj; omega
    rcases this with rfl | rfl
    · simpa using hc
    · simpa using hc1)).mono fun e w' ⟨he, hw⟩ => ⟨by rw [he]; exact ret_bool (by simp), hw⟩

set_option maxHeartbeats 800000 in
theorem split_any (n : Int) (w : World) (h0 : 0 ≤ n) (h1 : n ≤ 1000000) :
    Calls Try.prog 47 #[.int .i64 n] w fun e w' => e = .returned (.agg #[.int .i64 (n % 32), .int .i64 (n / 32)]) ∧ Below w.heap.size w w' := by
  go_enter Try.func47, Try.ntmps47
  go_wp2
  exact bodyPost_ret (v := .agg #[.int .i64 (n % 32), .int .i64 (n / 32)]) (by simp [results, Try.results47, go_sem]) rfl ⟨rfl, (Below.refl _ _).alloc (Nat.le_refl _) _⟩

set_option maxHeartbeats 800000 in
theorem distance_any (a b : Int) (w : World) (h0 : 0 ≤ a) (h1 : a < 512) (h2 : 0 ≤ b) (h3 : b < 512) :
    Calls Try.prog 49 #[.int .i64 a, .int .i64 b] w fun e w' => e = .returned (.int .i64 (dist a b)) ∧ Below w.heap.size w w' := by
  go_enter Try.func49, Try.ntmps49
  go_wp2_with fail
  refine (split_any _ _ (by omega) (by omega)).mono ?_
  rintro e w1 ⟨rfl, hb1⟩
  go_wp2_with fail
  refine (split_any _ _ (by omega) (by omega)).mono ?_
  rintro e w2 ⟨rfl, hb2⟩
  go_wp2_with fail
  refine (abs_any _ _ (by omega) (by omega)).mono ?_
  rintro e w3 ⟨rfl, rfl⟩
  go_wp2_with fail
  all_goals
    refine (abs_any _ _ (by omega) (by omega)).mono ?_
    rintro e w3 ⟨rfl, rfl⟩
    go_wp2
    all_goals
      go_ret
      exact ⟨ret_int (by unfold dist; omega), ba (ba (bl (bl (Below.refl _ _) hb1) hb2) _) _⟩

set_option maxHeartbeats 800000 in
theorem Distance_ok (a b : Int) (w : World) (h0 : 0 ≤ a) (h1 : a < 512) (h2 : 0 ≤ b) (h3 : b < 512) :
    Calls Try.prog 21 #[.int .i64 a, .int .i64 b] w fun e w' => e = .returned (.tuple #[.int .i64 (dist a b), .int .i64 0]) ∧ Below w.heap.size w w' := by
  have ht : (isT a && isT b) = true := by rw [isT_of.2 ⟨h0, h1⟩, isT_of.2 ⟨h2, h3⟩]; rfl
  go_enter Try.func21, Try.ntmps21
  go_wp2_with fail
  refine (is_two _ _ a b _ (by simp) (by simp)).mono ?_
  rintro e w1 ⟨rfl, rfl⟩
  go_wp2_with fail
  refine (distance_any _ _ _ h0 h1 h2 h3).mono ?_
  rintro e w2 ⟨rfl, hb2⟩
  go_wp2
  go_ret2
  exact ⟨rfl, bl (ba (Below.refl _ _) _) hb2⟩

set_option maxHeartbeats 800000 in
theorem Distance_err (a b : Int) (w : World) (h : (isT a && isT b) = false) :
    Calls Try.prog 21 #[.int .i64 a, .int .i64 b] w fun e w' => e = .returned (.tuple #[.int .i64 0, .int .i64 1]) ∧ Below w.heap.size w w' := by
  go_enter Try.func21, Try.ntmps21
  go_wp2_with fail
  refine (is_two _ _ a b _ (by simp) (by simp)).mono ?_
  rintro e w1 ⟨rfl, rfl⟩
  go_wp2
  go_ret2
  exact ⟨rfl, ba (Below.refl _ _) _⟩

set_option maxHeartbeats 800000 in
theorem Centre_ok (a : Int) (w : World) (h0 : 0 ≤ a) (h1 : a < 512) :
    Calls Try.prog 19 #[.int .i64 a] w fun e w' => e = .returned (.tuple #[.agg #[.int .i64 (180 * (a % 32) + 90), .int .i64 (180 * (a / 32) + 90)], .int .i64 0]) ∧ Below w.heap.size w w' := by
  have ht : isT a = true := isT_of.2 ⟨h0, h1⟩
  go_enter Try.func19, Try.ntmps19
  go_wp2_with fail
  refine (is_one _ _ a _ (by simp)).mono ?_
  rintro e w1 ⟨rfl, rfl⟩
  go_wp2_with fail
  refine (split_any _ _ (by omega) (by omega)).mono ?_
  rintro e w2 ⟨rfl, hb2⟩
  have hz : w.heap.size + 1 < w2.heap.size := by have := hb2.size; simp at this; omega
  have hz' : w.heap.size < w2.heap.size := by omega
  have c0 : w2.cell? ⟨w.heap.size, 0, none⟩ = some (.int .i64 0) := by rw [hb2.cell (by simp; omega)]; simp
  have c1 : w2.cell? ⟨w.heap.size, 1, none⟩ = some (.int .i64 0) := by rw [hb2.cell (by simp; omega)]; simp
  have f0 : w2.frozen? ⟨w.heap.size, 0, none⟩ = false := by rw [hb2.frozen (by simp; omega)]; simp
  have f1 : w2.frozen? ⟨w.heap.size, 1, none⟩ = false := by rw [hb2.frozen (by simp; omega)]; simp
  go_wp2
  exact bodyPost_ret (v := .tuple #[.agg #[.int .i64 (180 * (a % 32) + 90), .int .i64 (180 * (a / 32) + 90)], .int .i64 0]) (by simp [results, Try.results19, go_sem, hz', c0, c1]) rfl
    ⟨rfl, ba (((bl (ba (ba (Below.refl _ _) _) _) hb2).setCell (by simp) _).setCell (by simp) _) _⟩

set_option maxHeartbeats 800000 in
theorem Centre_err (a : Int) (w : World) (h : isT a = false) :
    Calls Try.prog 19 #[.int .i64 a] w fun e w' => e = .returned (.tuple #[.agg #[.int .i64 0, .int .i64 0], .int .i64 1]) ∧ Below w.heap.size w w' := by
  go_enter Try.func19, Try.ntmps19
  go_wp2_with fail
  refine (is_one _ _ a _ (by simp)).mono ?_
  rintro e w1 ⟨rfl, rfl⟩
  go_wp2
  exact bodyPost_ret (v := .tuple #[.agg #[.int .i64 0, .int .i64 0], .int .i64 1]) (by simp [results, Try.results19, go_sem]) rfl
    ⟨rfl, ba (ba (Below.refl _ _) _) _⟩

theorem Try.info3 : (Try.prog.info? 3).map (fun i => (i.zero, i.size, i.bytes)) = some (some (.int .i64 0), 1, 8) := by kernel_rfl

theorem near_succ_yes (a r : Int) (k : Nat) (h : dist a k ≤ r) : near a r (k + 1) = near a r k ++ [k] := by
  unfold near; rw [List.range_succ, List.filter_append]; simp [h]
theorem near_succ_no (a r : Int) (k : Nat) (h : ¬ dist a k ≤ r) : near a r (k + 1) = near a r k := by
  unfold near; rw [List.range_succ, List.filter_append]; simp [h]
theorem near_le (a r : Int) (k : Nat) : (near a r k).length ≤ k := by
  have := List.length_filter_le (fun i : Nat => decide (dist a (i : Int) ≤ r)) (List.range k)
  simpa [near] using this

theorem gb {a b : World} (hb : Below a.heap.size a b) (row : Option Nat) : a.grownBy b row := ⟨hb.os, hb.tape, hb.output, hb.size, fun k hk _ => hb.block k hk⟩
/-- What is owned stays owned behind a call. -/
theorem own_call {a b : World} {B : Nat} {e : TypeId} {s : Nat} {v : Value} {n : Nat} {xs : List Value} (h : a.ownsRow B e s v n xs) (hb : Below a.heap.size a b) : b.ownsRow B e s v n xs :=
  h.kept (row := none) (gb hb none) (by cases v.ownBlock <;> simp)
theorem one_new (w : World) (u : Value) (t : TypeId) : ∀ j x, [u][j]? = some x → (w.alloc (.cells #[u] t)).cell? ((⟨w.heap.size, 0, none⟩ : Addr).add j) = some x := by
  intro j x hj
  match j, hj with
  | 0, hj => simp at hj; subst hj; simp [Addr.add]
/-- numbers as values -/
def nv (l : List Nat) : List Value := l.map fun i : Nat => .int .i64 (i : Int)

/-- 'out = append(out, z)', out the call's own slice of ints: the law with its closed sides paid. -/
theorem wp_app_int {ops : Array Oper} {rest : List Oper} {o : Oper} {a : Act} {Q : Exit → Act → World → Prop} {w : World} (hgd : o.guard = none) (s x : Operand)
    (ho : o.op = .call { callee := .builtin .append, args := #[s, x], argTypes := #[31, 31] })
    (base : Nat) (v : Value) (n : Nat) (xs : List Value) (hs : a.eval s = v) (hown : w.ownsRow base 3 1 v n xs)
    (b c : Nat) (z : Int) (hx : a.eval x = .slice (some ⟨b, 0, none⟩) 1 c) (hcell : w.cell? ⟨b, 0, none⟩ = some (.int .i64 z))
    (hn : n ≤ 1000000) (hbase : base ≤ w.heap.size)
    (h : ∀ v' w', w'.ownsRow base 3 1 v' (n + 1) (xs ++ [.int .i64 z]) → w.grownBy w' v.ownBlock → v' ≠ .slice none 0 0 → wpList Try.prog ops Q rest (a.put o.dst v') w') : wpList Try.prog ops Q (o :: rest) a w := by
  obtain ⟨i0, hi, hz0, hz1, hz2⟩ := info_parts Try.info3
  refine wpList_append_own _ hgd s x 31 ho base 3 i0 (.int .i64 0) 1 8 Try.underlying31 hi hz0 hz1 hz2 rfl (by decide) v n xs hs hown ⟨b, 0, none⟩ 1 c [.int .i64 z] hx rfl ?_ ?_ ?_ ?_ hbase ?_
  · intro j u hj
    match j, hj with
    | 0, hj => simp at hj; subst hj; simpa [Addr.add] using hcell
  · intro u hu; simp at hu; subst hu; rfl
  · unfold maxLen; omega
  · omega
  · intro v' w' h1 h2 h3
    exact h v' w' h1 h2 (fun e => by have := (h3.1 e).2; omega)

set_option maxHeartbeats 1600000 in
set_option maxRecDepth 100000 in
theorem Near_ok (a r : Int) (w : World) (h0 : 0 ≤ a) (h1 : a < 512) (h2 : 0 ≤ r) (h3 : r < 32) :
    Calls Try.prog 23 #[.int .i64 a, .int .i64 r] w fun e w' => ∃ v, e = .returned (.tuple #[v, .int .i64 0]) ∧ w'.ownsRow w.heap.size 3 1 v (near a r 512).length (nv (near a r 512)) ∧ Below w.heap.size w w' := by
  have ht : isT a = true := isT_of.2 ⟨h0, h1⟩
  go_enter Try.func23, Try.ntmps23
  go_wp2_with fail
  refine (is_one _ _ a _ (by simp)).mono ?_
  rintro e w1 ⟨rfl, rfl⟩
  go_wp2_with fail
  go_loopw [6, 20] (fun v i wr => ∃ k : Nat, k ≤ 512 ∧ i = .int .i64 k ∧ wr.ownsRow w.heap.size 3 1 v (near a r k).length (nv (near a r k)) ∧ Below w.heap.size w wr)
    (fun _ i _ => 512 - (intOf i).toNat)
  case atStart => exact ⟨0, Nat.zero_le _, rfl, World.ownsRow_nil _ _ _ _, ba (Below.refl _ _) _⟩
  case round =>
    obtain ⟨k, hk, rfl, hown, hbel⟩ := hrel
    by_cases hlt : k < 512
    · have hle := near_le a r k
      go_wp2_with fail
      refine (distance_any _ _ _ h0 h1 (by omega) (by omega)).mono ?_
      rintro e w2 ⟨rfl, hb2⟩
      by_cases hd : dist a k ≤ r
      · go_wp2_with (at_builtin; refine wp_app_int rfl _ _ rfl w.heap.size _ _ _ rfl ((own_call hown hb2).alloc _) _ _ k rfl (by simp) (by omega) (by have := (bl hbel hb2).size; simp; omega) ?_)
        intro v' w3 hown' hgrow _
        have hlt' := (own_call hown hb2).lt
        have hb3 : Below w.heap.size w w3 := (ba (bl hbel hb2) _).grown hgrow ((ba (bl hbel hb2) _).size) (fun g hg => (hlt' g hg).1)
        have hown3 : w3.ownsRow w.heap.size 3 1 v' (near a r (k + 1)).length (nv (near a r (k + 1))) := by
          rw [near_succ_yes a r k hd]; simpa [nv] using hown'
        clear hown' hgrow hown hlt'
        go_wp2
        go_roundw
        case rel => exact ⟨k + 1, by omega, by go_num, hown3, hb3⟩
        case measure => simp [intOf]; omega
      · have hown3 : w2.ownsRow w.heap.size 3 1 u6 (near a r (k + 1)).length (nv (near a r (k + 1))) := by
          rw [near_succ_no a r k hd]; exact own_call hown hb2
        clear hown
        go_wp2
        go_roundw
        case rel => exact ⟨k + 1, by omega, by go_num, hown3, bl hbel hb2⟩
        case measure => simp [intOf]; omega
    · obtain rfl : k = 512 := by omega
      go_wp2
      go_ret2
      exact ⟨_, rfl, hown, hbel⟩

set_option maxHeartbeats 1600000 in
theorem Near_err (a r : Int) (w : World) (h : ¬ (0 ≤ a ∧ a < 512 ∧ 0 ≤ r ∧ r < 32)) :
    Calls Try.prog 23 #[.int .i64 a, .int .i64 r] w fun e w' => e = .returned (.tuple #[.slice none 0 0, .int .i64 1]) ∧ Below w.heap.size w w' := by
  by_cases ht : isT a = true
  · have h' := isT_of.1 ht
    by_cases hr : 0 ≤ r
    · have hr2 : ¬ r < 32 := by omega
      go_enter Try.func23, Try.ntmps23
      go_wp2_with fail
      refine (is_one _ _ a _ (by simp)).mono ?_
      rintro e w1 ⟨rfl, rfl⟩
      go_wp2
      go_ret2
      exact ⟨rfl, ba (Below.refl _ _) _⟩
    · go_enter Try.func23, Try.ntmps23
      go_wp2_with fail
      refine (is_one _ _ a _ (by simp)).mono ?_
      rintro e w1 ⟨rfl, rfl⟩
      go_wp2
      go_ret2
      exact ⟨rfl, ba (Below.refl _ _) _⟩
  · have ht : isT a = false := by simpa using ht
    go_enter Try.func23, Try.ntmps23
    go_wp2_with fail
    refine (is_one _ _ a _ (by simp)).mono ?_
    rintro e w1 ⟨rfl, rfl⟩
    go_wp2
    go_ret2
    exact ⟨rfl, ba (Below.refl _ _) _⟩
end Go.Proofs.Ytfddnmibjaibhaa
