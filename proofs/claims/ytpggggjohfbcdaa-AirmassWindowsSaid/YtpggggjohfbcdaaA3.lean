/- The iterator 'slots' of package airmass, and its contract for whatever loop body. -/
import Derived.RangeFuncNested
import Derived.RangeFuncBound
import Derived.RangeFuncCalls
import Derived.RangeFuncLeaves
import Derived.Shelf.Abstract
import Derived.Shelf.RegionOpen
import Derived.OwnWalkIn
import Derived.TacticsInMore
import Derived.LoopNIn
import Derived.LoopIn
import Derived.Test.YtpggggjohfbcdaaA2
namespace Go.Proofs.Ytpggggjohfbcdaa
open Go.RowKit Go.Shelf
attribute [local go_sem] Oper.semAt_some

/-- what 'slots' yields: a slot and the height at it -/
abbrev SH := Fin 96 × Int
def shAt (s t night : Int) (j : Nat) : SH := (⟨j % 96, by omega⟩, ht s t (96 * night + (j : Int)))
def upto (s t night : Int) (k : Nat) : List SH := (List.range k).map (shAt s t night)
theorem upto_succ (s t night : Int) (k : Nat) : upto s t night (k + 1) = upto s t night k ++ [shAt s t night k] := by simp [upto, List.range_succ]
theorem upto_length (s t night : Int) (k : Nat) : (upto s t night k).length = k := by simp [upto]

/-- boxes of an int at lo to hi - 1 hold what they held -/
def Mid (lo hi : Nat) (A B : World) : Prop := ∀ k v, lo ≤ k → k < hi → Boxed A k 3 v → Boxed B k 3 v
theorem Mid.refl (lo hi : Nat) (A : World) : Mid lo hi A A := fun _ _ _ _ h => h
theorem Mid.trans {lo hi : Nat} {A B C : World} (h : Mid lo hi A B) (k : Mid lo hi B C) : Mid lo hi A C := fun i v h1 h2 hb => k i v h1 h2 (h i v h1 h2 hb)
theorem mid_b {lo hi : Nat} {w : World} (hn : hi ≤ w.heap.size) (W : World) (l : Nat) (o o' : Obj) (hl : w.heap.size ≤ l) (_ : W.heap[l]? = some o) (_ : o.isCells = false) (_ : o.isWalk = false) : Mid lo hi W (W.putObj l o') :=
  fun k _ _ h2 hb => (World.putObj_heap_other (by omega)).trans hb

set_option maxRecDepth 100000 in
set_option maxHeartbeats 1000000 in
theorem slots1_in (n : Nat) (hn : 1 ≤ n) (l b1 b2 b3 lo hi : Nat) (s t night : Int) (h0 : 0 ≤ s) (h1 : s < 16) (h2 : 0 ≤ t) (h3 : t < 512) (h4 : 0 ≤ night) (h5 : night < 400)
    (l1 : lo ≤ b1 ∧ b1 < hi) (l2 : lo ≤ b2 ∧ b2 < hi) (l3 : lo ≤ b3 ∧ b3 < hi) (J Jx : List SH → World → Prop)
    (hY : ∀ pre x W, J pre W → pre.length < 96 → YieldAt Fence.wide (n - 1) Try.prog l #[.int .i64 (x.1.val : Int), .int .i64 x.2] W fun e W' =>
      (e = .returned (.bool true) ∧ J (pre ++ [x]) W' ∧ Mid lo hi W W') ∨ (e = .returned (.bool false) ∧ Jx (pre ++ [x]) W'))
    (W : World) (c1 : Boxed W b1 3 (.int .i64 night)) (c2 : Boxed W b2 3 (.int .i64 s)) (c3 : Boxed W b3 3 (.int .i64 t)) (hJ0 : J [] W) :
    CallsIn Fence.wide n Try.prog 35 #[.func (.yield l) #[] #[], .pointer (some ⟨b1, 0, none⟩), .pointer (some ⟨b2, 0, none⟩), .pointer (some ⟨b3, 0, none⟩)] W fun e W' => (∃ v, e = .returned v) ∧
      ((∃ ys, ys = upto s t night 96 ∧ J ys W') ∨ (∃ pre, True ∧ Jx pre W')) := by
  refine callsIn_of_wp Try.func35 rfl trivial ?_ rfl
  simp only [Try.ntmps35, List.size_toArray, List.length_cons, List.length_nil, Nat.reduceAdd, Nat.reduceSub, Array.replicate_succ, Array.replicate_zero, List.push_toArray, List.append_toArray, List.nil_append, List.cons_append]
  gi_wp2
  gi_loopw [10] (fun i wr => ∃ k : Nat, k ≤ 96 ∧ i = .int .i64 k ∧ J (upto s t night k) wr ∧ Mid lo hi W wr) (fun i _ => 96 - (intOf i).toNat)
  case atStart => exact ⟨0, Nat.zero_le _, rfl, hJ0, Mid.refl _ _ _⟩
  case round =>
    obtain ⟨k, hk, rfl, hJs, hm⟩ := hrel
    by_cases hlt : k < 96
    · have e1 : Boxed wr b1 3 (.int .i64 night) := hm _ _ l1.1 l1.2 c1
      have e2 : Boxed wr b2 3 (.int .i64 s) := hm _ _ l2.1 l2.2 c2
      have e3 : Boxed wr b3 3 (.int .i64 t) := hm _ _ l3.1 l3.2 c3
      have f1 := e1.cell
      have f2 := e2.cell
      have f3 := e3.cell
      obtain ⟨fn, tmps, assign, body, hy, hR⟩ := hY _ (shAt s t night k) wr hJs (by rw [upto_length]; exact hlt)
      have ek : ((shAt s t night k).1.val : Int) = k := by show ((k % 96 : Nat) : Int) = k; omega
      rw [ek] at hy
      have eh : (shAt s t night k).2 = ht s t (96 * night + (k : Int)) := rfl
      rw [eh] at hy
      clear ek eh e1 e2 e3
      gi_wp2_with fail
      refine ⟨trivial, ?_⟩
      refine (callsIn_wide.2 (Moment_ok _ _ _ h4 h5 (by omega) (by omega))).mono ?_
      rintro e w1 ⟨rfl, rfl⟩
      gi_wp2_with fail
      refine ⟨trivial, ?_⟩
      refine (callsIn_wide.2 (Height_ok _ _ _ _ (by omega) (by omega) h0 h1 h2 h3)).mono ?_
      rintro e w1 ⟨rfl, rfl⟩
      gi_wp2
      refine hR.mono ?_
      rintro e W3 (⟨rfl, hJ3, hk3⟩ | ⟨rfl, hJx3⟩)
      · gi_wp2
        go_roundw
        case rel => exact ⟨k + 1, by omega, by simp, by rw [upto_succ]; exact hJ3, hm.trans hk3⟩
        case measure => simp [intOf]; omega
      · gi_wp2
        refine bodyPost_ret (results_none rfl _ _ _) rfl ?_
        exact ⟨⟨_, rfl⟩, .inr ⟨_, trivial, hJx3⟩⟩
    · obtain rfl : k = 96 := by omega
      gi_wp2
      go_end0
      exact ⟨⟨_, rfl⟩, .inl ⟨_, rfl, hJs⟩⟩

theorem slots_stops (n : Nat) (hn : 1 ≤ n) (b1 b2 b3 lo hi : Nat) (s t night : Int) (h0 : 0 ≤ s) (h1 : s < 16) (h2 : 0 ≤ t) (h3 : t < 512) (h4 : 0 ≤ night) (h5 : night < 400)
    (l1 : lo ≤ b1 ∧ b1 < hi) (l2 : lo ≤ b2 ∧ b2 < hi) (l3 : lo ≤ b3 ∧ b3 < hi) (w : World) (hhi : hi ≤ w.heap.size)
    (c1 : Boxed w b1 3 (.int .i64 night)) (c2 : Boxed w b2 3 (.int .i64 s)) (c3 : Boxed w b3 3 (.int .i64 t)) :
    SeqStopsK Fence.wide n Try.prog 35 #[.pointer (some ⟨b1, 0, none⟩), .pointer (some ⟨b2, 0, none⟩), .pointer (some ⟨b3, 0, none⟩)] (fun x : SH => #[Value.int .i64 (x.1.val : Int), Value.int .i64 x.2]) (Mid lo hi)
      (fun ys => ys = upto s t night 96) (fun _ => True) 96 w := fun l J Jx W hW _ _ hY hJ0 =>
  slots1_in n hn l b1 b2 b3 lo hi s t night h0 h1 h2 h3 h4 h5 l1 l2 l3 J Jx hY W ((hW.block _ (by omega)).trans c1) ((hW.block _ (by omega)).trans c2) ((hW.block _ (by omega)).trans c3) hJ0

set_option maxHeartbeats 400000 in
theorem slots_in (s t night : Int) (w : World) :
    Calls Try.prog 33 #[.int .i64 s, .int .i64 t, .int .i64 night] w fun e w' =>
      e = .returned (.func (.func 35) #[] #[.pointer (some ⟨w.heap.size + 2, 0, none⟩), .pointer (some ⟨w.heap.size, 0, none⟩), .pointer (some ⟨w.heap.size + 1, 0, none⟩)]) ∧
      w' = ((w.alloc (.cells #[.int .i64 s] 3)).alloc (.cells #[.int .i64 t] 3)).alloc (.cells #[.int .i64 night] 3) := by
  go_enter Try.func33, Try.ntmps33
  go_wp2
  go_ret
  exact ⟨rfl, rfl⟩
end Go.Proofs.Ytpggggjohfbcdaa
