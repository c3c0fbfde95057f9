/- The contract of airmass.Windows. -/
import Derived.Test.YtpggggjohfbcdaaA4
import Derived.Laws.EntriesVeiled
namespace Go.Proofs.Ytpggggjohfbcdaa
open Go.RowKit Go.Shelf
attribute [local go_sem] Oper.semAt_some

theorem bx {n : Nat} (w : World) (t : TypeId) (v : Value) (h : n = w.heap.size) : Boxed (w.alloc (.cells #[v] t)) n t v := by subst h; exact Boxed.new w t v

set_option maxRecDepth 100000 in
set_option maxHeartbeats 2000000 in
theorem Windows_in (s t night least : Int) (n : Nat) (hn : 6 ≤ n) (w : World) (h0 : 0 ≤ s) (h1 : s < 16) (h2 : 0 ≤ t) (h3 : t < 512) (h4 : 0 ≤ night) (h5 : night < 400) :
    CallsIn Fence.wide n Try.prog 17 #[.int .i64 s, .int .i64 t, .int .i64 night, .int .i64 least] w fun e W' =>
      ∃ v, e = .returned (.tuple #[v, .int .i64 0]) ∧ W'.ownsRow w.heap.size 39 2 v (winL least s t night).length (spanCells (winL least s t night)) ∧ Below w.heap.size w W' := by
  have h1' : 1 ≤ n := by omega
  have he : exB s t = true := exB_of.2 ⟨h0, h1, h2, h3⟩
  refine callsIn_of_wp_marks Try.func17 rfl trivial ?_ rfl
  simp only [Try.ntmps17, List.size_toArray, List.length_cons, List.length_nil, Nat.reduceAdd, Nat.reduceSub, Array.replicate_succ, Array.replicate_zero, List.push_toArray, List.append_toArray, List.nil_append, List.cons_append]
  gi_wp2_with fail
  refine ⟨trivial, ?_⟩
  refine (callsIn_wide.2 (exists_any _ _ _)).mono ?_
  rintro e w1 ⟨rfl, rfl⟩
  gi_wp2_with fail
  refine ⟨trivial, ?_⟩
  refine (callsIn_wide.2 (slots_in _ _ _ _)).mono ?_
  rintro e w1 ⟨rfl, rfl⟩
  gi_wp2_with fail
  obtain ⟨C, hC⟩ : ∃ C : Value, C = .func (.func 32) #[] #[.pointer (some ⟨w.heap.size + 1 + 1, 0, none⟩), .pointer (some ⟨w.heap.size + 1, 0, none⟩)] := ⟨_, rfl⟩
  obtain ⟨W0, hW0⟩ : ∃ W0, (((((((w.alloc (.cells #[.int .i64 least] 3)).alloc (.cells #[.slice none 0 0] 28)).alloc (.cells #[.int .i64 (-1)] 3)).alloc (.cells #[C] 43)).alloc (.cells #[.int .i64 s] 3)).alloc (.cells #[.int .i64 t] 3)).alloc (.cells #[.int .i64 night] 3)) = W0 := ⟨_, rfl⟩
  have hsz : W0.heap.size = w.heap.size + 7 := by rw [← hW0]; simp
  have hB0 : Below w.heap.size w W0 := by
    rw [← hW0]
    exact (((((((Below.refl _ w).alloc (Nat.le_refl _) _).alloc (by simp) _).alloc (by simp; omega) _).alloc (by simp; omega) _).alloc (by simp; omega) _).alloc (by simp; omega) _).alloc (by simp; omega) _
  have x0 : Boxed W0 w.heap.size 3 (.int .i64 least) := by rw [← hW0]; exact ((((((Boxed.new _ _ _).alloc _).alloc _).alloc _).alloc _).alloc _).alloc _
  have x1 : Boxed W0 (w.heap.size + 1) 28 (.slice none 0 0) := by rw [← hW0]; exact (((((bx _ _ _ (by simp)).alloc _).alloc _).alloc _).alloc _).alloc _
  have x2 : Boxed W0 (w.heap.size + 1 + 1) 3 (.int .i64 (-1)) := by rw [← hW0]; exact ((((bx _ _ _ (by simp)).alloc _).alloc _).alloc _).alloc _
  have x3 : Boxed W0 (w.heap.size + 1 + 1 + 1) 43 C := by rw [← hW0]; exact (((bx _ _ _ (by simp)).alloc _).alloc _).alloc _
  have x4 : Boxed W0 (w.heap.size + 1 + 1 + 1 + 1) 3 (.int .i64 s) := by rw [← hW0]; exact ((bx _ _ _ (by simp)).alloc _).alloc _
  have x5 : Boxed W0 (w.heap.size + 1 + 1 + 1 + 1 + 1) 3 (.int .i64 t) := by rw [← hW0]; exact (bx _ _ _ (by simp)).alloc _
  have x6 : Boxed W0 (w.heap.size + 1 + 1 + 1 + 1 + 2) 3 (.int .i64 night) := by rw [← hW0]; exact bx _ _ _ (by simp)
  rw [← hC, hW0]
  have HC := hid hC
  clear hC hW0
  refine wpIn_rangeFunc_ownF rfl h1' (gf := 35) (lb := #[.pointer (some ⟨w.heap.size + 1 + 1 + 1 + 1 + 2, 0, none⟩), .pointer (some ⟨w.heap.size + 1 + 1 + 1 + 1, 0, none⟩), .pointer (some ⟨w.heap.size + 1 + 1 + 1 + 1 + 1, 0, none⟩)]) rfl trivial (enters_of Try.func35 (by kernel_rfl) rfl)
    (slots_stops (n - 1) (by omega) (w.heap.size + 1 + 1 + 1 + 1 + 2) (w.heap.size + 1 + 1 + 1 + 1) (w.heap.size + 1 + 1 + 1 + 1 + 1) (w.heap.size + 4) (w.heap.size + 7) s t night h0 h1 h2 h3 h4 h5 (by omega) (by omega) (by omega) W0 (by omega) x6 x4 x5)
    Mid.trans (mid_b (by omega)) (Below.refl _ _) (fun _ => rfl)
    (fun pre W => (Boxed W w.heap.size 3 (.int .i64 least) ∧ (∃ v, Boxed W (w.heap.size + 1) 28 v ∧ W.ownsRow w.heap.size 39 2 v (stW least pre).1.length (spanCells (stW least pre).1) ∧ True) ∧ Boxed W (w.heap.size + 1 + 1) 3 (.int .i64 (stW least pre).2) ∧ Boxed W (w.heap.size + 1 + 1 + 1) 43 C) ∧ Below w.heap.size w W)
    (fun _ _ _ => False)
    (OwnFrom.and (Own.from (fun p A B row hs hg hr => ⟨boxed_own _ _ (fun _ => _) p A B row hs.1 hg hr, holdsRow_own w.heap.size (w.heap.size + 1) 28 39 2 (fun p => (stW least p).1.length) (fun p => spanCells (stW least p).1) (fun _ _ => True) p A B row hs.2.1 hg hr, boxed_own _ _ (fun p => Value.int .i64 (stW least p).2) p A B row hs.2.2.1 hg hr, boxed_own _ _ (fun _ => _) p A B row hs.2.2.2 hg hr⟩) _) (ownFrom_below (Nat.le_refl _) (by omega)))
    (fun _ _ _ _ _ hs _ _ => hs)
    ⟨⟨x0, ⟨_, x1, World.ownsRow_nil _ _ _ _, trivial⟩, x2, x3⟩, hB0⟩
    (fun x => { tmps := #[.int .i64 s, .int .i64 t, .int .i64 night, .int .i64 least, undef, undef, undef, .pointer (some ⟨w.heap.size, 0, none⟩), .slice none 0 0,
          .int .i64 0, .pointer (some ⟨w.heap.size + 1, 0, none⟩), .pointer (some ⟨w.heap.size + 1 + 1, 0, none⟩), .pointer (some ⟨w.heap.size + 1 + 1 + 1, 0, none⟩), .int .i64 (x.1.val : Int), .int .i64 x.2, .int .i64 s,
          .int .i64 t, .bool true, .bool false, .bool false, .int .i64 night, .bool (decide (night < 0)), .bool (decide (night < 0)), .bool (decide (night < 0)),
          .int .i64 night, .bool (decide (400 ≤ night)), .bool (decide (night < 0) || decide (400 ≤ night)), C, .int .i64 s, .int .i64 t, .int .i64 night,
          .func (.func 35) #[] #[.pointer (some ⟨w.heap.size + 1 + 1 + 1 + 1 + 2, 0, none⟩), .pointer (some ⟨w.heap.size + 1 + 1 + 1 + 1, 0, none⟩), .pointer (some ⟨w.heap.size + 1 + 1 + 1 + 1 + 1, 0, none⟩)],
          .int .i64 (x.1.val : Int), .int .i64 x.2, undef, undef, undef, undef, undef, undef, undef, undef, undef, undef, undef, undef, undef, undef], defers := [] }) ?assign ?body ?done ?stop
  case assign =>
    intro l x W K hK
    gi_wp2
    exact hK
  case body =>
    rintro l pre x W ⟨⟨y0, ⟨v, y1, hrow, _⟩, y2, y3⟩, hB⟩ hlen
    have hbd := stW_bd least pre
    have hxl := x.1.isLt
    have hsz2 := hB.size
    have y3' : Boxed W (w.heap.size + 1 + 1 + 1) 43 (.func (.func 32) #[] #[.pointer (some ⟨w.heap.size + 1 + 1, 0, none⟩), .pointer (some ⟨w.heap.size + 1, 0, none⟩)]) := HC.out ▸ y3
    have d0 := y0.cell
    have d2 := y2.cell
    have f2 := y2.frozen
    have d3 := y3'.cell
    obtain ⟨f, hf⟩ : ∃ f, (stW least pre).2 = f := ⟨_, rfl⟩
    obtain ⟨k, hk⟩ : ∃ k : Int, (x.1.val : Int) = k := ⟨_, rfl⟩
    obtain ⟨h, hh⟩ : ∃ h : Int, x.2 = h := ⟨_, rfl⟩
    rw [hf] at y2 d2 hbd
    rw [hk, hh]
    have hk0 : 0 ≤ k := by omega
    have hk1 : k < 96 := by omega
    have HF := hid hf
    have HK := hid hk
    have HH := hid hh
    clear hf hk hh hxl
    have Y0 := hid y0
    have Y1 := hid y1
    have Y2 := hid y2
    have Y3 := hid y3
    have HROW := hid hrow
    clear y0 y1 y2 y3 y3' hrow
    by_cases hlt : h < least
    · gi_wp2_with fail
      refine ⟨trivial, fun _ => by omega, ?_⟩
      refine (CallsIn.inRound l (callsIn_wide.2 (end_any k f (w.heap.size + 1 + 1) (w.heap.size + 1) w.heap.size v _ (stW least pre).1 W (by omega) (by omega) Y2.out Y1.out HROW.out (by omega) (by omega) (by omega) (by omega) hsz2))).mono ?_
      rintro e W' ⟨rfl, v', z1, z2, z3, z4, z5⟩
      have Z1 := hid z1
      have Z2 := hid z2
      have Z3 := hid z3
      have Z4 := hid z4
      have Z5 := hid z5
      clear z1 z2 z3 z4 z5 d0 d2 f2 d3
      have HST : Hid (stW least (pre ++ [x]) = (finW ((stW least pre).1, f) k, -1)) := by
        unfold Hid
        rw [stW_snoc]; unfold stepW; rw [if_pos (by rw [HH.out]; exact hlt), HK.out]
        rw [show ((stW least pre).1, f) = stW least pre from by rw [← HF.out]]
      gi_wp2
      refine ⟨Z5.out.others Y2.out Y1.out, fun g u g1 g2 hb => Z5.out.boxed hb (by decide) (by omega) (by omega), ⟨Z5.out.boxed Y0.out (by decide) (by omega) (by omega), ⟨v', Z2.out, ?_, trivial⟩, ?_, Z5.out.boxed Y3.out (by decide) (by omega) (by omega)⟩, hB.trans Z4.out⟩
      · rw [HST.out]
        have hz3 := Z3.out
        have hln : (finW ((stW least pre).1, f) k).length = if 0 ≤ f then (stW least pre).1.length + 1 else (stW least pre).1.length := by unfold finW; simp only; split <;> simp
        rw [hln]; exact hz3
      · rw [HST.out]; exact Z1.out
    · by_cases hf0 : f < 0
      · have HST : Hid (stW least (pre ++ [x]) = ((stW least pre).1, k)) := by
          unfold Hid
          rw [stW_snoc]; unfold stepW; rw [if_neg (by rw [HH.out]; exact hlt), if_pos (by rw [HF.out]; exact hf0), HK.out]
        gi_wp2
        exact ⟨KeepsOthers.setCell _ _ _, fun g u g1 g2 hb => hb.other (by omega) _, ⟨Y0.out.other (by omega) _, ⟨v, Y1.out.other (by omega) _, by rw [HST.out]; exact HROW.out.kept (grownBy_setCell' W _ _) (.inr (Y2.out.not_row (by decide) HROW.out).symm)⟩, by rw [HST.out]; exact Y2.out.set _, Y3.out.other (by omega) _⟩, hB.setCell (p := ⟨w.heap.size + 1 + 1, 0, none⟩) (by show w.heap.size ≤ w.heap.size + 1 + 1; omega) _⟩
      · have HST : Hid (stW least (pre ++ [x]) = ((stW least pre).1, f)) := by
          unfold Hid
          rw [stW_snoc]; unfold stepW; rw [if_neg (by rw [HH.out]; exact hlt), if_neg (by rw [HF.out]; exact hf0), HF.out]
        gi_wp2
        exact ⟨KeepsOthers.refl _, Mid.refl _ _ _, ⟨Y0.out, ⟨v, Y1.out, by rw [HST.out]; exact HROW.out⟩, by rw [HST.out]; exact Y2.out, Y3.out⟩, hB⟩
  case done =>
    rintro D ys W hD rfl ⟨⟨y0, ⟨v, y1, hrow, _⟩, y2, y3⟩, hB⟩ hK
    have hbd := stW_bd least (upto s t night 96)
    rw [upto_length] at hbd
    have hsz2 := hB.size
    have y3' : Boxed W (w.heap.size + 1 + 1 + 1) 43 (.func (.func 32) #[] #[.pointer (some ⟨w.heap.size + 1 + 1, 0, none⟩), .pointer (some ⟨w.heap.size + 1, 0, none⟩)]) := HC.out ▸ y3
    have d3 := y3'.cell
    have Y1 := hid y1
    have Y2 := hid y2
    have HROW := hid hrow
    have HKD := hid hK
    clear y0 y1 y2 y3 y3' hrow hK x0 x1 x2 x3 x4 x5 x6
    gi_wp2_with fail
    refine ⟨trivial, ?_⟩
    refine (callsIn_wide.2 (end_any 96 (stW least (upto s t night 96)).2 (w.heap.size + 1 + 1) (w.heap.size + 1) w.heap.size v _ (stW least (upto s t night 96)).1 W (by omega) (by omega) Y2.out Y1.out HROW.out (by omega) (by omega) (by omega) (by omega) hsz2)).mono ?_
    rintro e W' ⟨rfl, v', z1, z2, z3, z4, z5⟩
    have e2 := z2.cell
    have HKD' : Hid (W'.heap[D]? = some (.deferred (some []))) := (z5.others Y2.out Y1.out).same D _ HKD.out rfl
    have Z3 := hid z3
    have Z4 := hid z4
    clear z1 z2 z3 z4 z5 d3
    gi_wp2
    refine ⟨by simp, .inl ⟨_, _, rfl, run_takeDeferred HKD'.out, ?_⟩⟩
    refine ⟨_, results_tmp2 rfl _ _ _, v', rfl, ?_, ?_⟩
    · have hln : (winL least s t night).length = if 0 ≤ (stW least (upto s t night 96)).2 then (stW least (upto s t night 96)).1.length + 1 else (stW least (upto s t night 96)).1.length := by unfold winL finW; split <;> simp
      rw [hln]
      exact ownsRow_putObj Z3.out _ HKD'.out rfl
    · exact (hB.trans Z4.out).trans (belowK_b (w := w) (Nat.le_refl _) W' D _ _ (by omega) HKD'.out rfl rfl)
  case stop =>
    rintro D c pre W _ _ h _
    exact h.elim

theorem Windows_ok (s t night least : Int) (w : World) (h0 : 0 ≤ s) (h1 : s < 16) (h2 : 0 ≤ t) (h3 : t < 512) (h4 : 0 ≤ night) (h5 : night < 400) :
    Calls Try.prog 17 #[.int .i64 s, .int .i64 t, .int .i64 night, .int .i64 least] w fun e W' =>
      ∃ v, e = .returned (.tuple #[v, .int .i64 0]) ∧ W'.ownsRow w.heap.size 39 2 v (winL least s t night).length (spanCells (winL least s t night)) ∧ Below w.heap.size w W' :=
  callsIn_wide.1 (Windows_in s t night least 6 (by omega) w h0 h1 h2 h3 h4 h5)
end Go.Proofs.Ytpggggjohfbcdaa
