/- Add of the set of the reference of merge. -/
import Derived.Test.YtfddnmibjaibhaaMQ
namespace Go.Proofs.Ytfddnmibjaibhaa
open Go.RowKit Go.Maps

theorem Valid_is {x : Al} {b : Bool} (hb : isV x = b) (w : World) :
    Calls Try.prog 57 #[x.val] w fun e w' => e = .returned (.bool b) ∧ Below w.heap.size w w' := by subst hb; exact Valid_any x w

set_option maxHeartbeats 800000 in
theorem rAdd_bad (q : Nat) (x : Al) (w : World) (hx : isV x = false) :
    Calls Try.prog 39 #[.pointer (some ⟨q, 0, none⟩), x.val] w fun e w' => e = .returned (.tuple #[.int .i64 0, .int .i64 1]) ∧ Below w.heap.size w w' := by
  obtain ⟨t, c, f, u, a⟩ := x
  have HX := hid hx
  have HXV : Hid (Al.val ⟨t, c, f, u, a⟩ = .agg #[.int .i64 t, .int .i64 c, .int .i64 f, .int .i64 u, .int .i64 a]) := rfl
  rw [HXV.out]
  clear hx
  go_enter Try.func39, Try.ntmps39
  go_wp2_with fail
  refine (Valid_is HX.out _).mono ?_
  rintro e w1 ⟨rfl, hb1⟩
  go_wp2
  go_ret2
  exact ⟨rfl, bl (ba (Below.refl _ _) _) hb1⟩
/-- the last one of a group -/
theorem last_of {n i : Nat} {d : Nat → Nat} {g : List Nat} (hg : (gl (n + 1) d)[i]? = some g) :
    ∃ M y, g.length = M + 1 ∧ g[M]? = some y ∧ (y = n ↔ idx (n + 1) d n = i) ∧ (idx (n + 1) d n = i → g.length = (mem (n + 1) d (d n)).length) := by
  obtain ⟨f, hf, hm, h0, hs, hin⟩ := gl_at hg
  have hl := gl_len_le (List.mem_of_getElem? hg)
  obtain ⟨M, hM⟩ : ∃ M, g.length = M + 1 := ⟨g.length - 1, by omega⟩
  have hy : g[M]? = some (g[M]'(by omega)) := List.getElem?_eq_getElem (by omega)
  refine ⟨M, _, hM, hy, ⟨fun e => ?_, fun e => ?_⟩, fun e => ?_⟩
  · exact (idx_mem hg (by omega)).1 (by rw [← e]; exact List.getElem_mem _)
  · have hmem := (idx_mem hg (Nat.lt_succ_self n)).2 e
    have hc := (hin n hmem).2
    have hgm := hm
    rw [mem_succ, if_pos hc] at hgm
    have hlen : g.length = (mem n d (d f)).length + 1 := by rw [hgm, List.length_append]; rfl
    have hMl : (mem n d (d f)).length = M := by omega
    have : g[M]? = some n := by rw [hgm, List.getElem?_append_right (by omega), hMl, Nat.sub_self]; rfl
    rw [hy] at this
    exact Option.some.inj this
  · have hmem := (idx_mem hg (Nat.lt_succ_self n)).2 e
    rw [(hin n hmem).2, ← hm]

set_option maxHeartbeats 3200000 in
set_option maxRecDepth 100000 in
theorem rAdd_ok {q n r : Nat} {win : Int} {l : List Al} {v : Value} {x : Al} (hn : l.length = n) (hr : (mem (n + 1) (col win (l ++ [x])) (col win (l ++ [x]) n)).length = r) (w : World) (h : RSetAt w q win l v) (hx : isV x = true) (hl : n < 200) :
    Calls Try.prog 39 #[.pointer (some ⟨q, 0, none⟩), x.val] w fun e w' => e = .returned (.tuple #[.int .i64 (r : Nat), .int .i64 0]) ∧
      ∃ v', RSetAt w' q win (l ++ [x]) v' ∧ Fr (RSetK q v) w w' ∧ ∀ g, v'.ownBlock = some g → v.ownBlock = some g ∨ w.heap.size ≤ g := by
  obtain ⟨L, hL⟩ : ∃ L, l ++ [x] = L := ⟨_, rfl⟩
  have hLl : L.length = n + 1 := by rw [← hL, List.length_append, hn]; rfl
  rw [hL] at hr ⊢
  obtain ⟨d, hd⟩ : ∃ d, col win L = d := ⟨_, rfl⟩
  rw [hd] at hr
  have HL := hid hL
  have HLL := hid hLl
  have HD := hid hd
  have HR := hid hr
  have HX := hid hx
  have hql := h.lt
  have hvl := h.own.lt
  have hvq : v.ownBlock ≠ some q := fun e => by have := (hvl q e).1; omega
  have hvx : v.ownBlock ≠ some w.heap.size := fun e => by have := (hvl _ e).2; omega
  have H := hid h
  have HN := hid hn
  obtain ⟨t, c, f, u, a⟩ := x
  have HXV : Hid (Al.val ⟨t, c, f, u, a⟩ = .agg #[.int .i64 t, .int .i64 c, .int .i64 f, .int .i64 u, .int .i64 a]) := rfl
  rw [HXV.out]
  clear h hx hn hr hvl hL hLl hd
  go_enter Try.func39, Try.ntmps39
  go_wp2_with fail
  refine (Valid_is HX.out _).mono ?_
  rintro e w1 ⟨rfl, hb1⟩
  have hF1 : Fr (fun _ => False) w w1 := ((Fr.refl _ w).alloc _).call hb1
  have HF1 := hid hF1
  have H1 := H.out.kept hF1 (fun k _ h => h)
  have hs1 := hb1.size
  have b0 : ∀ i : Nat, w1.cell? ⟨w.heap.size, i, none⟩ = _ := fun i => hb1.cell (p := ⟨w.heap.size, i, none⟩) (by simp)
  obtain ⟨A, cap, rfl, hA⟩ := own_slice H1.own
  obtain ⟨-, c1⟩ := H1.cells
  rw [HN.out] at c1 hvq hvx
  have f1 := World.rowIs.frozen H1.row 1
  have hn200 : ((n : Int) == 200) = false := by simp; omega
  have hown := H1.own
  rw [HN.out] at hown
  have HOWN := hid hown
  have H1' := hid H1
  have z0 := b0 0
  have z1 := b0 1
  have z2 := b0 2
  have z3 := b0 3
  have z4 := b0 4
  simp at z0 z1 z2 z3 z4
  have hs2 : w.heap.size < w1.heap.size := by simp at hs1; omega
  have hq1 : q < w1.heap.size := by omega
  obtain ⟨i0, hi0, hz0, hz1, hz2⟩ := info_parts Try.info52
  clear hown H1 b0 hb1 hs1 hF1 hA
  go_upto_region 5 with fail
  have hKC : ∀ (o : Obj) (p : Addr), p.block < w1.heap.size → (w1.alloc o).drew.cell? p = w1.cell? p := fun o p h => Fr.cell (K := fun _ => False) ((Fr.refl _ w1).alloc o).drew h id
  have hKF : ∀ (o : Obj) (p : Addr), p.block < w1.heap.size → (w1.alloc o).drew.frozen? p = w1.frozen? p := fun o p h => Fr.frozen (K := fun _ => False) ((Fr.refl _ w1).alloc o).drew h id
  have HKC := hid hKC
  have HKF := hid hKF
  clear hKC hKF
  go_cut [29] (fun s wx => ∃ gg cap' : Nat, s = .slice (some ⟨gg, 0, none⟩) (n + 1) cap' ∧ Hid (RSetAt wx q win L s) ∧ Hid (Fr (RSetK q (.slice A n cap)) w wx) ∧ Hid (∀ g, s.ownBlock = some g → (Value.slice A n cap).ownBlock = some g ∨ w.heap.size ≤ g))
  case first =>
    go_region_law
      ((refine step_append_lies _ (by rfl) _ _ _ (by rfl) (q + 1) 52 i0 _ 5 40 Try.underlying42 hi0 hz0 hz1 hz2 rfl (by omega) (.slice A n cap) n (alCells l) (by rfl) ((HOWN.out.alloc _).drew)
          ⟨w1.heap.size, 0, none⟩ 1 1 [.int .i64 t, .int .i64 c, .int .i64 f, .int .i64 u, .int .i64 a] (by rfl) (by rfl) (World.news_of_block (cs := #[.int .i64 t, .int .i64 c, .int .i64 f, .int .i64 u, .int .i64 a]) (t := 52) (fr := (0, 0)) (heap_alloc_new w1 _)) (by simp [Value.oneCell'])
          (by omega) (by unfold maxLen; omega) (by omega) (by simp; omega) (w1.heap.size + 1) (by simp) ?_; intro gg cap' w3 hown3 hgrow hat hlt; have c4 := (hgrow.cell_far ⟨q, 1, none⟩ (by simp; omega) (Ne.symm hvq)).trans ((HKC.out _ _ (by simp; omega)).trans c1); have f4 := (hgrow.frozen_far ⟨q, 1, none⟩ (by simp; omega) (Ne.symm hvq)).trans ((HKF.out _ _ (by simp; omega)).trans f1)))
    all_goals
      have hcap : n ≤ cap' := by have := own_cap hown3; omega
      have hgq : q + 1 ≤ gg := (hown3.lt gg rfl).1
      have hF3 : Fr (fun k => (Value.slice A n cap).ownBlock = some k) w1 w3 := (((Fr.refl (fun k => (Value.slice A n cap).ownBlock = some k) w1).alloc _).drew).grown hgrow (fun k hk => .inl hk)
      have hrow3 : (w3.setCell ⟨q, 1, none⟩ (.slice (some ⟨gg, 0, none⟩) (n + 1) cap')).rowIs q 83 2 (fun i => if i = 0 then .int .i64 win else .slice (some ⟨gg, 0, none⟩) (n + 1) cap') := by
        refine (World.rowIs.set (World.rowIs.of_block H1'.out.row (hF3.block q hq1 hvq)) 1 _).congr fun i hi => ?_
        match i, hi with
        | 0, _ => rfl
        | 1, _ => rfl
      have hF4 : Fr (RSetK q (.slice A n cap)) w (w3.setCell ⟨q, 1, none⟩ (.slice (some ⟨gg, 0, none⟩) (n + 1) cap')) :=
        ((HF1.out.mono (K' := RSetK q (.slice A n cap)) (fun k h => h.elim)).trans hF3 (fun k h => .inl (.inr h))).setCell q _ _ (.inl (.inl rfl))
      have hown4 : (w3.setCell ⟨q, 1, none⟩ (.slice (some ⟨gg, 0, none⟩) (n + 1) cap')).ownsRow (q + 1) 52 5 (.slice (some ⟨gg, 0, none⟩) (n + 1) cap') (n + 1) (alCells L) := by
        rw [← HL.out, alCells_append]
        exact ((Fr.refl (fun k => k = q) w3).setCell q 1 _ (.inl rfl)).own hown3 (fun g hg e => by simp only [Value.ownBlock, Option.some.injEq] at hg; omega)
      have hset : RSetAt (w3.setCell ⟨q, 1, none⟩ (.slice (some ⟨gg, 0, none⟩) (n + 1) cap')) q win L (.slice (some ⟨gg, 0, none⟩) (n + 1) cap') := by
        refine ⟨hrow3, H1'.out.mw, ?_, by rw [HLL.out]; exact hown4, by rw [HLL.out]; omega⟩
        intro y hy
        rw [← HL.out, List.mem_append] at hy
        rcases hy with hy | hy
        · exact H1'.out.ok y hy
        · rw [List.mem_singleton] at hy; rw [hy]; exact HX.out
      have hloc : ∀ g, (Value.slice (some ⟨gg, 0, none⟩) (n + 1) cap').ownBlock = some g → (Value.slice A n cap).ownBlock = some g ∨ w.heap.size ≤ g := by
        intro g hg
        have e : gg = g := by simpa [Value.ownBlock] using hg
        subst e
        rcases hat with h | h
        · exact .inl h
        · right; omega
      clear c4 f4
      go_wp2_with fail
      go_meet
      case rel => exact ⟨gg, cap', rfl, hset, hF4, hloc⟩
  case rest =>
  obtain ⟨gg, cap', rfl, HR4, HF4, HLOC⟩ := hcut
  obtain ⟨G, hG⟩ : ∃ G, (gl (n + 1) d).length = G := ⟨_, rfl⟩
  have HG := hid hG
  have hPG : idx (n + 1) d n < G := by rw [← hG]; exact idx_lt (Nat.lt_succ_self n)
  obtain ⟨P0, hP0⟩ : ∃ P0, idx (n + 1) d n = P0 := ⟨_, rfl⟩
  rw [hP0] at hPG
  have HP0 := hid hP0
  have hGn : G ≤ n + 1 := by rw [← hG, gl_length]; exact fr_le _ _
  clear HKC HKF c1 f1 z0 z1 z2 z3 z4 hG hP0
  go_wp2_with fail
  refine (rSGroups_at HLL.out HD.out HG.out _ HR4.out).mono ?_
  rintro e w6 ⟨A6, c6, rfl, hg6, hb6⟩
  have HG6 := hid hg6
  have HR6 := hid (HR4.out.kept (K := fun _ => False) ((Fr.refl _ wc).call hb6) (fun _ _ => id))
  have HF6 := hid (HF4.out.call hb6)
  have c5 := HR6.out.cells.2
  have hq6 := HR6.out.lt
  clear hg6 hb6
  go_wp2_with fail
  go_loopw [7] (fun iv wr => ∃ i m : Nat, i ≤ P0 ∧ iv = .int .i64 (i : Nat) ∧ wr = w6.drewN m) (fun iv _ => G - (intOf iv).toNat)
  case atStart => exact ⟨0, 0, Nat.zero_le _, rfl, rfl⟩
  case round =>
    obtain ⟨i, m, hi, rfl, rfl⟩ := hrel
    have hiG : i < G := by omega
    obtain ⟨g, hg⟩ : ∃ g, (gl (n + 1) d)[i]? = some g := ⟨_, List.getElem?_eq_getElem (by rw [HG.out]; exact hiG)⟩
    obtain ⟨M, y, hM, hy, hyn, hlen⟩ := last_of hg
    have hgl := gl_len_le (List.mem_of_getElem? hg)
    obtain ⟨bg, rfl, hbg, hcg⟩ := HG6.out.at_ (by rw [HG.out]; omega)
    obtain ⟨A1, ca, eg, rg⟩ := hcg i g hg
    obtain ⟨b1, rfl, hb1, hg1⟩ := rg.at_ hgl.1
    have cy := hg1 M y hy
    rw [hM] at eg hgl hlen
    have ek : ((M + 1 : Nat) : Int) - 1 = (M : Int) := by omega
    have en : ((n + 1 : Nat) : Int) - 1 = (n : Int) := by omega
    have HYN := hid hyn
    have HLEN := hid hlen
    rw [HP0.out] at HYN HLEN
    clear hg hM hy hyn hlen hcg rg hg1
    by_cases hip : i = P0
    · have hyn := HYN.out.2 hip.symm
      have hrM : M + 1 = r := by rw [HLEN.out hip.symm, HR.out]
      have HRM := hid hrM
      subst hyn
      clear hip hrM
      go_wp2_with fail
      go_quiet (fail)
      go_wp2
      go_ret2
      refine ⟨by rw [← HRM.out]; rfl, _, (HR6.out.kept (K := fun _ => False) ⟨rfl, rfl, rfl, Nat.le_refl _, fun _ _ _ => rfl⟩ (fun _ _ => id)), (by rw [HN.out]; exact HF6.out.drewN _), (by rw [HN.out]; exact HLOC.out)⟩
    · have hyn : ¬ y = n := fun e => hip (HYN.out.1 e).symm
      have ex : ((y : Int) == (n : Int)) = false := by simp; omega
      go_wp2_with fail
      go_quiet (fail)
      go_wp2
      go_roundw
      case rel => exact ⟨i + 1, _, by omega, by go_num, rfl⟩
      case measure => simp [intOf]; omega
end Go.Proofs.Ytfddnmibjaibhaa
