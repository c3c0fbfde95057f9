/- The windows of a night as a plain function; the closure that ends a window. -/
import Derived.Test.YtpggggjohfbcdaaA3
namespace Go.Proofs.Ytpggggjohfbcdaa
open Go.RowKit

/-- spans as cells -/
def spanCells (l : List (Int × Int)) : List Value := l.flatMap fun p => [.int .i64 p.1, .int .i64 p.2]
theorem spanCells_append (l m : List (Int × Int)) : spanCells (l ++ m) = spanCells l ++ spanCells m := by simp [spanCells]

/-- the window that runs ends ahead of slot k -/
def finW (st : List (Int × Int) × Int) (k : Int) : List (Int × Int) := if 0 ≤ st.2 then st.1 ++ [(st.2, k - 1)] else st.1
/-- one slot -/
def stepW (least : Int) (st : List (Int × Int) × Int) (x : SH) : List (Int × Int) × Int :=
  if x.2 < least then (finW st x.1.val, -1) else (st.1, if st.2 < 0 then x.1.val else st.2)
def stW (least : Int) (l : List SH) : List (Int × Int) × Int := l.foldl (stepW least) ([], -1)
/-- the windows -/
def winL (least s t night : Int) : List (Int × Int) := finW (stW least (upto s t night 96)) 96
theorem stW_snoc (least : Int) (l : List SH) (x : SH) : stW least (l ++ [x]) = stepW least (stW least l) x := by simp [stW]
theorem finW_len (st : List (Int × Int) × Int) (k : Int) : (finW st k).length ≤ st.1.length + 1 := by unfold finW; split <;> simp
theorem stW_bd' (least : Int) (l : List SH) : ∀ st : List (Int × Int) × Int, -1 ≤ st.2 → st.2 < 96 →
    (l.foldl (stepW least) st).1.length ≤ st.1.length + l.length ∧ -1 ≤ (l.foldl (stepW least) st).2 ∧ (l.foldl (stepW least) st).2 < 96 := by
  induction l with
  | nil => intro st h1 h2; exact ⟨by simp, h1, h2⟩
  | cons x l ih =>
    intro st h1 h2
    have hx := x.1.isLt
    have hs : (stepW least st x).1.length ≤ st.1.length + 1 ∧ -1 ≤ (stepW least st x).2 ∧ (stepW least st x).2 < 96 := by
      have h := finW_len st x.1.val
      unfold stepW
      split
      · exact ⟨h, by simp, by simp⟩
      · refine ⟨by simp, ?_, ?_⟩ <;> simp only <;> split <;> omega
    obtain ⟨a, b, c⟩ := ih _ hs.2.1 hs.2.2
    simp only [List.foldl_cons, List.length_cons]
    exact ⟨by omega, b, c⟩
theorem stW_bd (least : Int) (l : List SH) : (stW least l).1.length ≤ l.length ∧ -1 ≤ (stW least l).2 ∧ (stW least l).2 < 96 := by
  have := stW_bd' least l ([], -1) (by simp) (by simp)
  simpa [stW] using this

theorem Try.info39 : (Try.prog.info? 39).map (fun i => (i.zero, i.size, i.bytes)) = some (some (.agg #[.int .i64 0, .int .i64 0]), 2, 16) := by kernel_rfl

/-- what the closure leaves: all but two boxes and rows of spans -/
def Kept39 (Bf Bo : Nat) (W W' : World) : Prop := W.heap.size ≤ W'.heap.size ∧ ∀ g o, g ≠ Bf → g ≠ Bo → W.heap[g]? = some o → (∀ cs z, o ≠ .cells cs 39 z) → W'.heap[g]? = some o
theorem Kept39.trans {Bf Bo : Nat} {A B C : World} (h : Kept39 Bf Bo A B) (k : Kept39 Bf Bo B C) : Kept39 Bf Bo A C :=
  ⟨Nat.le_trans h.1 k.1, fun g o h1 h2 h3 h4 => k.2 g o h1 h2 (h.2 g o h1 h2 h3 h4) h4⟩
theorem Kept39.refl (Bf Bo : Nat) (A : World) : Kept39 Bf Bo A A := ⟨Nat.le_refl _, fun _ _ _ _ h _ => h⟩
theorem Kept39.setF (Bf Bo : Nat) (A : World) (u : Value) : Kept39 Bf Bo A (A.setCell ⟨Bf, 0, none⟩ u) :=
  ⟨by simp [World.setCell], fun g o h1 _ h3 _ => (Below.heap_setCell _ _ _ _ h1).trans h3⟩
theorem Kept39.boxed {Bf Bo : Nat} {A B : World} (h : Kept39 Bf Bo A B) {g : Nat} {t : TypeId} {v : Value} (hb : Boxed A g t v) (ht : t ≠ 39) (h1 : g ≠ Bf) (h2 : g ≠ Bo) : Boxed B g t v :=
  h.2 g _ h1 h2 hb (fun cs z e => by injection e with _ e2 _; exact ht e2)
theorem Kept39.others {Bf Bo : Nat} {A B : World} (h : Kept39 Bf Bo A B) {tf tq : TypeId} {vf vo : Value} (hf : Boxed A Bf tf vf) (ho : Boxed A Bo tq vo) : KeepsOthers A B :=
  ⟨h.1, fun k o hk hc => h.2 k o (fun e => by subst e; rw [show A.heap[k]? = _ from hf] at hk; cases hk; cases hc) (fun e => by subst e; rw [show A.heap[k]? = _ from ho] at hk; cases hk; cases hc) hk
    (fun cs z e => by subst e; cases hc)⟩

theorem Kept39.app {Bf Bo n₀ size n : Nat} {A B : World} {tmp : Obj} {v v' : Value} {xs : List Value} (hrow : A.ownsRow n₀ 39 size v n xs) (hg : (A.alloc tmp).grownBy B v.ownBlock) : Kept39 Bf Bo A (B.setCell ⟨Bo, 0, none⟩ v') := by
  refine ⟨by have := hg.size; simp at this; simp [World.setCell]; omega, fun g o h1 h2 h3 h4 => ?_⟩
  have hlt := (Array.getElem?_eq_some_iff.1 h3).1
  refine (Below.heap_setCell _ _ _ _ h2).trans ((hg.block g (by simp; omega) (fun e => ?_)).trans ((Below.heap_alloc A tmp g hlt).trans h3))
  rcases hrow.2 with ⟨rfl, _⟩ | ⟨g', cap, cur, rfl, _, hgb, _⟩
  · simp [Value.ownBlock] at e
  · obtain rfl : g = g' := by simpa [Value.ownBlock] using e
    rw [hgb] at h3
    exact h4 cur (0, 0) (by injection h3 with h3; exact h3.symm)

theorem two_new (w : World) (u1 u2 : Value) (t : TypeId) : ∀ j x, [u1, u2][j]? = some x → (w.alloc (.cells #[u1, u2] t)).cell? ((⟨w.heap.size, 0, none⟩ : Addr).add j) = some x := by
  intro j x hj
  match j, hj with
  | 0, hj => simp at hj; subst hj; simp [Addr.add]
  | 1, hj => simp at hj; subst hj; simp [Addr.add]

def EndPost (k f : Int) (Bf Bo n₀ n : Nat) (l : List (Int × Int)) (W : World) (e : Ending) (W' : World) : Prop :=
  e = .returned (.tuple #[]) ∧ ∃ v', Boxed W' Bf 3 (.int .i64 (-1)) ∧ Boxed W' Bo 28 v' ∧ W'.ownsRow n₀ 39 2 v' (if 0 ≤ f then n + 1 else n) (spanCells (finW (l, f) k)) ∧ Below n₀ W W' ∧ Kept39 Bf Bo W W'

set_option maxRecDepth 100000 in
set_option maxHeartbeats 1000000 in
theorem end_any (k f : Int) (Bf Bo n₀ : Nat) (v : Value) (n : Nat) (l : List (Int × Int)) (W : World) (hk0 : 0 ≤ k) (hk1 : k ≤ 96) (hf : Boxed W Bf 3 (.int .i64 f)) (ho : Boxed W Bo 28 v)
    (hrow : W.ownsRow n₀ 39 2 v n (spanCells l)) (hn : n ≤ 1000) (h1 : n₀ ≤ Bf) (h2 : n₀ ≤ Bo) (hne : Bf ≠ Bo) (h3 : n₀ ≤ W.heap.size) :
    Calls Try.prog 32 #[.int .i64 k, .pointer (some ⟨Bf, 0, none⟩), .pointer (some ⟨Bo, 0, none⟩)] W (EndPost k f Bf Bo n₀ n l W) := by
  obtain ⟨i0, hi, hz0, hz1, hz2⟩ := info_parts Try.info39
  have c1 := hf.cell
  have c2 := hf.frozen
  have c3 := ho.cell
  have c4 := ho.frozen
  by_cases h0 : 0 ≤ f
  · have H0 := hid h0
    go_enter Try.func32, Try.ntmps32
    go_wp2_with (at_builtin; refine wpList_append_own _ rfl _ _ 28 rfl n₀ 39 i0 (.agg #[.int .i64 0, .int .i64 0]) 2 16 Try.underlying28 hi hz0 hz1 hz2 rfl (by decide) _ _ _ rfl (hrow.alloc _) ⟨W.heap.size, 0, none⟩ 1 1 [.int .i64 f, .int .i64 (k - 1)] rfl rfl (two_new _ _ _ _) ?c2 ?c3 ?c4 ?c5 ?_)
    case c2 => intro u hu; simp at hu; rcases hu with rfl | rfl <;> rfl
    case c3 => unfold maxLen; omega
    case c4 => omega
    case c5 => simp; omega
    intro v' w1 hown' hgrow _
    obtain ⟨g', cap', rfl⟩ := ownsRow_succ hown'
    obtain ⟨hv1, hv2, hr2, hk2, hb2⟩ := ho.appended (by decide) hrow h3 h2 hown' hgrow
    have hf1 : Boxed w1 Bf 3 (.int .i64 f) := (hf.alloc _).kept hgrow (hf.not_row (by decide) hrow)
    have hf2 : Boxed (w1.setCell ⟨Bo, 0, none⟩ (.slice (some ⟨g', 0, none⟩) (n + 1) cap')) Bf 3 (.int .i64 f) := hf1.other hne _
    have hK : Kept39 Bf Bo W (w1.setCell ⟨Bo, 0, none⟩ (.slice (some ⟨g', 0, none⟩) (n + 1) cap')) := Kept39.app hrow hgrow
    have d1 := hv1.cell
    have d2 := hv1.frozen
    have d3 := hf1.cell
    have d4 := hf1.frozen
    clear hown' hgrow c1 c2 c3 c4
    have HV2 := hid hv2
    have HR2 := hid hr2
    have HB2 := hid hb2
    have HK := hid hK
    have HF2 := hid hf2
    clear hv2 hr2 hb2 hK hf2 hk2
    go_wp2
    go_end0
    refine ⟨rfl, _, HF2.out.set _, HV2.out.other (Ne.symm hne) _, ?_, HB2.out.setCell (p := ⟨Bf, 0, none⟩) h1 _, HK.out.trans (Kept39.setF _ _ _ _)⟩
    rw [if_pos H0.out]
    unfold finW
    rw [if_pos H0.out, spanCells_append]
    exact (HR2.out.kept (grownBy_setCell' _ Bf _) (.inr (HF2.out.not_row (by decide) HR2.out).symm))
  · go_enter Try.func32, Try.ntmps32
    go_wp2
    go_end0
    exact ⟨rfl, v, hf.set _, ho.other (Ne.symm hne) _, by rw [if_neg (by omega)]; unfold finW; rw [if_neg (by simp only; omega)]; exact hrow.kept (grownBy_setCell' W Bf _) (.inr (hf.not_row (by decide) hrow).symm), (Below.refl _ _).setCell (p := ⟨Bf, 0, none⟩) h1 _, Kept39.setF _ _ _ _⟩
end Go.Proofs.Ytpggggjohfbcdaa
