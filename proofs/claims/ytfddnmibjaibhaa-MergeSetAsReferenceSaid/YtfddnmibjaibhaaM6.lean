/- (*Set).Add of package merge. -/
import Derived.Test.YtfddnmibjaibhaaM5
import Derived.Deep.RegionLaw
import Derived.Deep.DeepCutAuto
namespace Go.Proofs.Ytfddnmibjaibhaa
open Go.RowKit

theorem Try.info52 : (Try.prog.info? 52).map (fun i => (i.zero, i.size, i.bytes)) = some (some (.agg #[.int .i64 0, .int .i64 0, .int .i64 0, .int .i64 0, .int .i64 0]), 5, 40) := by kernel_rfl
theorem valid38_is {x : Al} {b : Bool} (hb : isV x = b) (w : World) :
    Calls Try.prog 53 #[x.val] w fun e w' => e = .returned (.bool b) ∧ Below w.heap.size w w' := by subst hb; exact valid38_any x w
theorem near38_is {x y : Al} {win : Int} {b : Bool} (hb : cl win x y = b) (p : Nat) (w : World) (hx : isV x = true) (hy : isV y = true) (hp : p < w.heap.size) (hc : w.cell? ⟨p, 0, none⟩ = some (.int .i64 win)) :
    Calls Try.prog 54 #[.pointer (some ⟨p, 0, none⟩), x.val, y.val] w fun e w' => e = .returned (.bool b) ∧ Below w.heap.size w w' := by subst hb; exact near38_any p x y win w hx hy hp hc

theorem Least.edges {n : Nat} {R R' : Nat → Nat → Prop} {c : Nat → Nat} (h : Least n R c) (hR : ∀ i j, i < n → j < n → (R i j ↔ R' i j)) : Least n R' c :=
  ⟨fun i j hi hj hr => h.resp i j hi hj ((hR i j hi hj).2 hr), fun f hf => h.least f fun i j hi hj hr => hf i j hi hj ((hR i j hi hj).1 hr)⟩

theorem SetB.win {w : World} {p : Nat} {win : Int} {v : Value} {P S : Nat → Nat} (h : SetB w p win v P S) : w.cell? ⟨p, 0, none⟩ = some (.int .i64 win) := World.rowIs.cell h (i := 0) (by omega)
theorem SetB.als {w : World} {p : Nat} {win : Int} {v : Value} {P S : Nat → Nat} (h : SetB w p win v P S) : w.cell? ⟨p, 1, none⟩ = some v := World.rowIs.cell h (i := 1) (by omega)
theorem SetB.setV {w : World} {p : Nat} {win : Int} {v : Value} {P S : Nat → Nat} (h : SetB w p win v P S) (u : Value) : SetB (w.setCell ⟨p, 1, none⟩ u) p win u P S := by
  refine (World.rowIs.set h 1 _).congr fun j hj => ?_
  by_cases e : j = 1
  · subst e; rfl
  · rw [if_neg e]; unfold setF
    split; rfl
    rfl
theorem own_cap {w : World} {base e size : Nat} {A : Option Addr} {cap : Nat} {n : Nat} {xs : List Value} (h : w.ownsRow base e size (.slice A n cap) n xs) : n ≤ cap := by
  rcases h.2 with ⟨h1, h0⟩ | ⟨g, cap', cur, h1, _, _, h2, _⟩
  · omega
  · cases h1; exact h2
theorem own_slice {w : World} {base e size : Nat} {v : Value} {n : Nat} {xs : List Value} (h : w.ownsRow base e size v n xs) : ∃ A cap, v = .slice A n cap ∧ (0 < n → ∃ g, A = some ⟨g, 0, none⟩) := by
  rcases h.2 with ⟨rfl, h0⟩ | ⟨g, cap, cur, rfl, _⟩
  · exact ⟨none, 0, by rw [h0], fun h => by omega⟩
  · exact ⟨_, _, rfl, fun _ => ⟨g, rfl⟩⟩

/-- the set behind the loop -/
def St (p : Nat) (win : Int) (v : Value) (n q r : Nat) (L : List Al) (wc w : World) : Prop :=
  (∃ P S c d, UF (n + 1) P S c d ∧ SetB w p win v P S ∧ Least (n + 1) (fun x y => edge win L x y = true) c ∧ c n = q ∧ S q = r) ∧ Fr (fun b => b = p) wc w
theorem keepS {p : Nat} {win : Int} {v : Value} {n q r : Nat} {L : List Al} {wc w : World} (h : St p win v n q r L wc w ∧ w.cell? ⟨p, 202 + q, none⟩ = some (.int .i64 (r : Nat))) : St p win v n q r L wc w.drew ∧ w.drew.cell? ⟨p, 202 + q, none⟩ = some (.int .i64 (r : Nat)) := by
  obtain ⟨⟨⟨P, S, c, d, h1, h2, h3, h4⟩, h5⟩, h6⟩ := h
  exact ⟨⟨⟨P, S, c, d, h1, h2, h3, h4⟩, h5.drew⟩, h6⟩
theorem St.cell {p : Nat} {win : Int} {v : Value} {n q r : Nat} {L : List Al} {wc w : World} (h : St p win v n q r L wc w) (hn : n < 200) : q < 200 ∧ w.cell? ⟨p, 202 + q, none⟩ = some (.int .i64 (r : Nat)) := by
  obtain ⟨⟨P, S, c, d, h1, h2, h3, h4, h6⟩, h5⟩ := h
  have hc := h1.cb n (by omega)
  rw [h4] at hc
  exact ⟨by omega, by rw [h2.size (by omega), h6]⟩
theorem root_st {p : Nat} {win : Int} {v : Value} {n q r : Nat} {L : List Al} {wc w : World} (h : St p win v n q r L wc w) (hn : n < 200) :
    Calls Try.prog 56 #[.pointer (some ⟨p, 0, none⟩), .int .i64 (n : Nat)] w fun e w' => e = .returned (.int .i64 (q : Nat)) ∧ St p win v n q r L wc w' ∧ w'.cell? ⟨p, 202 + q, none⟩ = some (.int .i64 (r : Nat)) := by
  obtain ⟨⟨P, S, c, d, h1, h2, h3, h4, h6⟩, h5⟩ := h
  refine (root_any p win v (n + 1) P S c d n w h1 (by omega) (by omega) h2).mono ?_
  rintro e w' ⟨rfl, P', g1, g2, g3, g4⟩
  have hst : St p win v n q r L wc w' := ⟨⟨P', S, c, d, g1, g2, h3, h4, h6⟩, h5.grown g3 (fun b hb => .inl (by cases hb; rfl))⟩
  exact ⟨by rw [h4], hst, (hst.cell hn).2⟩

theorem root_st2 {p : Nat} {win : Int} {v : Value} {n q r : Nat} {L : List Al} {wc w : World} (h : St p win v n q r L wc w ∧ w.cell? ⟨p, 202 + q, none⟩ = some (.int .i64 (r : Nat))) (hn : n < 200) :
    Calls Try.prog 56 #[.pointer (some ⟨p, 0, none⟩), .int .i64 (n : Nat)] w fun e w' => e = .returned (.int .i64 (q : Nat)) ∧ St p win v n q r L wc w' ∧ w'.cell? ⟨p, 202 + q, none⟩ = some (.int .i64 (r : Nat)) := root_st h.1 hn

set_option maxHeartbeats 3200000 in
set_option maxRecDepth 100000 in
theorem Add_ok (p : Nat) (win : Int) (l : List Al) (v : Value) (x : Al) (w : World) (h : SetAt w p win l v) (hx : isV x = true) (hl : l.length < 200) :
    Calls Try.prog 33 #[.pointer (some ⟨p, 0, none⟩), x.val] w fun e w' => e = .returned (.tuple #[.int .i64 ((mem (l.length + 1) (col win (l ++ [x])) (col win (l ++ [x]) l.length)).length : Nat), .int .i64 0]) ∧
      ∃ v', SetAt w' p win (l ++ [x]) v' ∧ Fr (SetK p v) w w' ∧ ∀ g, v'.ownBlock = some g → v.ownBlock = some g ∨ w.heap.size ≤ g := by
  obtain ⟨n, hn⟩ : ∃ n, l.length = n := ⟨_, rfl⟩
  obtain ⟨L, hL⟩ : ∃ L, l ++ [x] = L := ⟨_, rfl⟩
  rw [hn, hL]
  obtain ⟨r, hr⟩ : ∃ r, (mem (n + 1) (col win L) (col win L n)).length = r := ⟨_, rfl⟩
  rw [hr]
  have HL := hid hL
  clear hL
  have HR := hid hr
  have HX := hid hx
  have hpl := h.uf.lt
  have hvl := h.own.lt
  have hvp : v.ownBlock ≠ some p := fun e => by have := (hvl p e).1; omega
  have hvx : v.ownBlock ≠ some w.heap.size := fun e => by have := (hvl _ e).2; omega
  have H := hid h
  have HN := hid hn
  rw [hn] at hl
  have hmf : ∀ (fn : Fn) (first cap : Array Value) (w : World), (Instr.makeFunc fn first cap).run Try.prog w = .ok (.func fn first cap) w := fun _ _ _ _ => rfl
  obtain ⟨t, c, f, u, a⟩ := x
  have HXV : Hid (Al.val ⟨t, c, f, u, a⟩ = .agg #[.int .i64 t, .int .i64 c, .int .i64 f, .int .i64 u, .int .i64 a]) := rfl
  rw [HXV.out]
  clear h hx hn hr hvl
  go_enter Try.func33, Try.ntmps33
  go_wp2_with fail
  refine (valid38_is HX.out _).mono ?_
  rintro e w1 ⟨rfl, hb1⟩
  have hF1 : Fr (fun _ => False) w w1 := ((Fr.refl _ w).alloc _).call hb1
  have HF1 := hid hF1
  have H1 := H.out.kept hF1 (fun k _ h => h)
  have hs1 := hb1.size
  have b0 : ∀ i : Nat, w1.cell? ⟨w.heap.size, i, none⟩ = _ := fun i => hb1.cell (p := ⟨w.heap.size, i, none⟩) (by simp)
  obtain ⟨⟨P, S, cc, d, hu, hb, hle⟩, hok, hown, -⟩ := H1
  rw [HN.out] at hu hle hown
  obtain ⟨A, cap, rfl, hA⟩ := own_slice hown
  have c1 := hb.als
  have d1 := hb.par (i := n) (by omega)
  have d2 := hb.size (i := n) (by omega)
  have f1 := World.rowIs.frozen hb (2 + n)
  have f2 := World.rowIs.frozen hb (202 + n)
  have hn200 : ((n : Int) == 200) = false := by simp; omega
  have HB := hid hb
  have HU := hid hu
  have HLE := hid hle
  have HOK := hid hok
  have HOWN := hid hown
  have HB0 := hid b0
  have HF := hid hF1
  have hs2 : w.heap.size < w1.heap.size := by simp at hs1; omega
  have HMF := hid hmf
  clear hb hu hle hok hown b0 hF1 hb1 hs1 hmf HF1
  go_wp2_with fail
  go_region
  go_upto_region 7 with fail
  have hb2 := (HB.out.setP n n (by omega)).setS n 1 (by omega)
  have hF2 : Fr (fun k => k = p) w1 ((w1.setCell ⟨p, 2 + n, none⟩ (.int .i64 (n : Nat))).setCell ⟨p, 202 + n, none⟩ (.int .i64 1)).drew := (((Fr.refl (fun k => k = p) w1).setCell p _ _ (.inl rfl)).setCell p _ _ (.inl rfl)).drew
  obtain ⟨W2, hW⟩ : ∃ W2, ((w1.setCell ⟨p, 2 + n, none⟩ (.int .i64 (n : Nat))).setCell ⟨p, 202 + n, none⟩ (.int .i64 1)).drew = W2 := ⟨_, rfl⟩
  have hb2 : SetB W2 p win (.slice A n cap) (fun j => if j = n then n else P j) (fun j => if j = n then 1 else S j) := by rw [← hW]; exact hb2
  rw [hW] at hF2 ⊢
  clear hW
  have hown2 := hF2.own HOWN.out (fun g hg e => hvp (by rw [hg, e]))
  have g0 := (hF2.cell (q := ⟨w.heap.size, 0, none⟩) hs2 (by simp; omega)).trans (HB0.out 0)
  have g1 := (hF2.cell (q := ⟨w.heap.size, 1, none⟩) hs2 (by simp; omega)).trans (HB0.out 1)
  have g2 := (hF2.cell (q := ⟨w.heap.size, 2, none⟩) hs2 (by simp; omega)).trans (HB0.out 2)
  have g3 := (hF2.cell (q := ⟨w.heap.size, 3, none⟩) hs2 (by simp; omega)).trans (HB0.out 3)
  have g4 := (hF2.cell (q := ⟨w.heap.size, 4, none⟩) hs2 (by simp; omega)).trans (HB0.out 4)
  simp at g0 g1 g2 g3 g4
  have c3 := hb2.als
  have f3 := World.rowIs.frozen hb2 1
  have hs3 : w.heap.size < W2.heap.size := Nat.lt_of_lt_of_le hs2 hF2.size
  have hpW : p < W2.heap.size := by omega
  have HB2 := hid hb2
  have HF2 := hid ((HF.out.mono (K' := fun k => k = p) (fun k h => h.elim)).trans hF2 (fun k h => .inl h))
  have HOWN2 := hid hown2
  obtain ⟨i0, hi0, hz0, hz1, hz2⟩ := info_parts Try.info52
  clear hb2 hF2 hown2 HB HB0 c1 d1 d2 f1 f2
  have hKC : ∀ (o : Obj) (q : Addr), q.block < W2.heap.size → (W2.alloc o).drew.cell? q = W2.cell? q := fun o q h => Fr.cell (K := fun _ => False) ((Fr.refl _ W2).alloc o).drew h id
  have hKF : ∀ (o : Obj) (q : Addr), q.block < W2.heap.size → (W2.alloc o).drew.frozen? q = W2.frozen? q := fun o q h => Fr.frozen (K := fun _ => False) ((Fr.refl _ W2).alloc o).drew h id
  have HKC := hid hKC
  have HKF := hid hKF
  clear hKC hKF
  go_cut [48] (fun s wx => ∃ gg cap' : Nat, s = .slice (some ⟨gg, 0, none⟩) (n + 1) cap' ∧ Hid (SetB wx p win s (fun j => if j = n then n else P j) (fun j => if j = n then 1 else S j)) ∧ Hid (Fr (SetK p (.slice A n cap)) w wx) ∧ Hid (wx.ownsRow (p + 1) 52 5 s (n + 1) (alCells L)) ∧ Hid (∀ i, wx.cell? ⟨w.heap.size, i, none⟩ = W2.cell? ⟨w.heap.size, i, none⟩) ∧ Hid (∀ g, s.ownBlock = some g → (Value.slice A n cap).ownBlock = some g ∨ w.heap.size ≤ g))
  case first =>
    go_region_law
      ((refine step_append_lies _ (by rfl) _ _ _ (by rfl) (p + 1) 52 i0 _ 5 40 Try.underlying42 hi0 hz0 hz1 hz2 rfl (by omega) (.slice A n cap) n (alCells l) (by rfl) ((HOWN2.out.alloc _).drew)
          ⟨W2.heap.size, 0, none⟩ 1 1 [.int .i64 t, .int .i64 c, .int .i64 f, .int .i64 u, .int .i64 a] (by rfl) (by rfl) (World.news_of_block (cs := #[.int .i64 t, .int .i64 c, .int .i64 f, .int .i64 u, .int .i64 a]) (t := 52) (fr := (0, 0)) (heap_alloc_new W2 _)) (by simp [Value.oneCell'])
          (by omega) (by unfold maxLen; omega) (by omega) (by simp; omega) (W2.heap.size + 1) (by simp) ?_; intro gg cap' w3 hown3 hgrow hat hlt; have c4 := (hgrow.cell_far ⟨p, 1, none⟩ (by simp; omega) (Ne.symm hvp)).trans ((HKC.out _ _ (by simp; omega)).trans c3); have f4 := (hgrow.frozen_far ⟨p, 1, none⟩ (by simp; omega) (Ne.symm hvp)).trans ((HKF.out _ _ (by simp; omega)).trans f3)))
    all_goals
      have hcap : n ≤ cap' := by have := own_cap hown3; omega
      have hgp : p + 1 ≤ gg := (hown3.lt gg rfl).1
      have hF3 : Fr (fun k => (Value.slice A n cap).ownBlock = some k) W2 w3 := (((Fr.refl (fun k => (Value.slice A n cap).ownBlock = some k) W2).alloc _).drew).grown hgrow (fun k hk => .inl hk)
      have hb3 := (SetB.setV (World.rowIs.of_block HB2.out (hF3.block p hpW hvp)) (.slice (some ⟨gg, 0, none⟩) (n + 1) cap'))
      have hF4 : Fr (SetK p (.slice A n cap)) w (w3.setCell ⟨p, 1, none⟩ (.slice (some ⟨gg, 0, none⟩) (n + 1) cap')) :=
        ((HF2.out.mono (K' := SetK p (.slice A n cap)) (fun k h => .inl (.inl h))).trans hF3 (fun k h => .inl (.inr h))).setCell p _ _ (.inl (.inl rfl))
      have hown4 : (w3.setCell ⟨p, 1, none⟩ (.slice (some ⟨gg, 0, none⟩) (n + 1) cap')).ownsRow (p + 1) 52 5 (.slice (some ⟨gg, 0, none⟩) (n + 1) cap') (n + 1) (alCells L) := by
        rw [← HL.out, alCells_append]
        exact ((Fr.refl (fun k => k = p) w3).setCell p 1 _ (.inl rfl)).own hown3 (fun g hg e => by simp only [Value.ownBlock, Option.some.injEq] at hg; omega)
      have hgg : gg < (w3.setCell ⟨p, 1, none⟩ (.slice (some ⟨gg, 0, none⟩) (n + 1) cap')).heap.size := (hown4.lt gg rfl).2
      have hbx : ∀ i, (w3.setCell ⟨p, 1, none⟩ (.slice (some ⟨gg, 0, none⟩) (n + 1) cap')).cell? ⟨w.heap.size, i, none⟩ = W2.cell? ⟨w.heap.size, i, none⟩ := fun i =>
        (Fr.cell ((Fr.refl (fun k => k = p) w3).setCell p 1 _ (.inl rfl)) (q := ⟨w.heap.size, i, none⟩) (Nat.lt_of_lt_of_le hs3 hF3.size) (by simp; omega)).trans (hF3.cell (q := ⟨w.heap.size, i, none⟩) hs3 hvx)
      have hloc : ∀ g, (Value.slice (some ⟨gg, 0, none⟩) (n + 1) cap').ownBlock = some g → (Value.slice A n cap).ownBlock = some g ∨ w.heap.size ≤ g := by
        intro g hg
        have e : gg = g := by simpa [Value.ownBlock] using hg
        subst e
        rcases hat with h | h
        · exact .inl h
        · right; omega
      clear c4 f4
      go_wp2_with fail
      go_meet
      case rel => exact ⟨gg, cap', rfl, hb3, hF4, hown4, hbx, hloc⟩
  case rest =>
  obtain ⟨gg, cap', rfl, HB3, HF4, HOWN4, HBX, HLOC⟩ := hcut
  have hcap : n ≤ cap' := by have := own_cap HOWN4.out; omega
  have hgp : p + 1 ≤ gg := (HOWN4.out.lt gg rfl).1
  have hgg := (HOWN4.out.lt gg rfl).2
  clear HKC HKF HOWN2 HF2
  have c5 := HB3.out.als
  go_wp2_with fail
  have hs4 : w.heap.size < wc.heap.size := by have := HF4.out.size; have := (HBX.out 0).trans g0; exact (World.block_lt_of_cell? wc _ this)
  have HG0 := hid ((HBX.out 0).trans g0)
  have HG1 := hid ((HBX.out 1).trans g1)
  have HG2 := hid ((HBX.out 2).trans g2)
  have HG3 := hid ((HBX.out 3).trans g3)
  have HG4 := hid ((HBX.out 4).trans g4)
  have HUF : Hid (Uf wc p win (.slice (some ⟨gg, 0, none⟩) (n + 1) cap') (n + 1) (Part (edge win L) n 0)) := by
    refine ⟨_, _, _, d, HU.out.add, HB3.out, Least.add (c := cc) (HLE.out.edges fun i j hi hj => ?_) ?_ ?_⟩
    · rw [← HL.out, edge_append _ (by rw [HN.out]; exact hi) (by rw [HN.out]; exact hj)]
    · intro i hi; rw [if_neg (by omega)]
    · intro i hi; rw [if_neg (by omega), if_pos rfl]; have := HU.out.cb i hi; omega
  clear hs3 hpW g0 g1 g2 g3 g4 c3 f3 c5 HB2 HB3 HBX HU HLE hs2 HF hb2
  go_loopw [60] (fun i wr => ∃ k : Nat, k ≤ n ∧ i = .int .i64 (k : Nat) ∧ Hid (Uf wr p win (.slice (some ⟨gg, 0, none⟩) (n + 1) cap') (n + 1) (Part (edge win L) n k)) ∧ Hid (Fr (fun b => b = p) wc wr)) (fun i _ => n - (intOf i).toNat)
  case atStart => exact ⟨0, Nat.zero_le _, rfl, HUF, Fr.refl _ _⟩
  case round =>
    obtain ⟨k, hk, rfl, hU, hFr⟩ := hrel
    by_cases hkn : k < n
    · have hkl : k < l.length := by rw [HN.out]; exact hkn
      obtain ⟨y, hy⟩ : ∃ y, l[k] = y := ⟨_, rfl⟩
      have hyv : isV y = true := HOK.out y (hy ▸ List.getElem_mem hkl)
      have hLk : k < L.length := by rw [← HL.out, List.length_append]; omega
      have hLy : L[k] = y := by have : (l ++ [(⟨t, c, f, u, a⟩ : Al)])[k]'(by rw [List.length_append]; omega) = y := by rw [List.getElem_append_left hkl, hy]
                                simpa [← HL.out] using this
      have ey : ∀ i, i < 5 → wr.cell? ⟨gg, k * 5 + i, none⟩ = (acell y)[i]? := fun i hi => by
        rw [hFr.out.cell (q := ⟨gg, k * 5 + i, none⟩) hgg (by simp; omega), HOWN4.out.cellAt _ (by omega), alCells_at L k hLk i hi, hLy]
      have ex : ∀ i, wr.cell? ⟨w.heap.size, i, none⟩ = wc.cell? ⟨w.heap.size, i, none⟩ := fun i => hFr.out.cell (q := ⟨w.heap.size, i, none⟩) hs4 (by simp; omega)
      obtain ⟨bb, hbb⟩ : ∃ b, cl win ⟨t, c, f, u, a⟩ y = b := ⟨_, rfl⟩
      have HCL := hid hbb
      have HED : Hid (edge win L n k = bb) := by unfold Hid; rw [← HL.out, ← HN.out, edge_new _ hkl, hy, hbb]
      obtain ⟨t', c', f', u', a'⟩ := y
      have y0 := ey 0 (by omega)
      have y1 := ey 1 (by omega)
      have y2 := ey 2 (by omega)
      have y3 := ey 3 (by omega)
      have y4 := ey 4 (by omega)
      simp [acell] at y0 y1 y2 y3 y4
      have x0 := (ex 0).trans HG0.out
      have x1 := (ex 1).trans HG1.out
      have x2 := (ex 2).trans HG2.out
      have x3 := (ex 3).trans HG3.out
      have x4 := (ex 4).trans HG4.out
      have HYV := hid hyv
      have hpr := hU.out.lt
      have hsr : w.heap.size < wr.heap.size := Nat.lt_of_lt_of_le hs4 hFr.out.size
      have hgr : gg < wr.heap.size := Nat.lt_of_lt_of_le hgg hFr.out.size
      have cw : wr.cell? ⟨p, 0, none⟩ = some (.int .i64 win) := by obtain ⟨_, _, _, _, _, h, _⟩ := hU.out; exact h.win
      clear hy hyv ey ex hbb hLy hLk
      go_wp2_with fail
      refine (near38_is HCL.out p _ HX.out HYV.out (Nat.lt_of_lt_of_le hpr (Fr.size ((Fr.refl (fun _ => False) wr).alloc _))) ((Fr.cell ((Fr.refl (fun _ => False) wr).alloc _) (q := ⟨p, 0, none⟩) hpr id).trans cw)).mono ?_
      rintro e w5 ⟨rfl, hb5⟩
      have hF5 := ((Fr.refl (fun _ => False) wr).alloc _).call hb5
      have hU5 := hid (hU.out.kept hF5 id)
      have hFr5 := hid (hFr.out.trans hF5 (fun k h => h.elim))
      clear hb5 hF5 hU hFr x0 x1 x2 x3 x4 y0 y1 y2 y3 y4 cw hpr hsr hgr
      cases bb
      · go_wp2
        go_roundw
        case rel => exact ⟨k + 1, by omega, by go_num, (by obtain ⟨P1, S1, c1, d1, hu1, hs1, hl1⟩ := hU5.out; exact ⟨P1, S1, c1, d1, hu1, hs1, hl1.skip HED.out⟩), hFr5⟩
        case measure => simp [intOf]; omega
      · obtain ⟨P1, S1, c1, d1, hu1, hs1, hl1⟩ := hU5.out
        have HU1 := hid hu1
        have HS1 := hid hs1
        have HL1 := hid hl1
        clear hu1 hs1 hl1 hU5
        go_wp2_with fail
        refine (join_any p win _ (n + 1) P1 S1 c1 d1 k n _ HU1.out (by omega) (by omega) (by omega) HS1.out).mono ?_
        rintro e w6 ⟨rfl, P2, S2, c2, d2, hu2, hs2, hg2, hz2, hj2⟩
        have HU6 : Hid (Uf w6 p win (.slice (some ⟨gg, 0, none⟩) (n + 1) cap') (n + 1) (Part (edge win L) n (k + 1))) := ⟨P2, S2, c2, d2, hu2, hs2, HL1.out.join hkn HED.out hj2⟩
        have hFr6 := hid (hFr5.out.grown hg2 (fun b hb => .inl (by cases hb; rfl)))
        clear hu2 hs2 hg2 hz2 hj2
        go_wp2
        go_roundw
        case rel => exact ⟨k + 1, by omega, by go_num, HU6, hFr6⟩
        case measure => simp [intOf]; omega
    · obtain rfl : k = n := by omega
      obtain ⟨q, HST⟩ : ∃ q, St p win (.slice (some ⟨gg, 0, none⟩) (k + 1) cap') k q r L wc wr := by
        obtain ⟨P1, S1, c1, d1, hu1, hs1, hl1⟩ := hU.out
        have hl2 := hl1.full (edge_symm win L)
        have hLl : L.length = k + 1 := by rw [← HL.out, List.length_append, HN.out]; rfl
        have hcl := col_least win L
        rw [hLl] at hcl
        refine ⟨c1 k, ⟨P1, S1, c1, d1, hu1, hs1, hl2, rfl, ?_⟩, hFr.out⟩
        rw [hu1.sz _ (hu1.cb k (by omega)) (hu1.cc k (by omega)), ← HR.out, mem_congr (hl2.same hcl) (by omega)]
      obtain ⟨hq, c7⟩ := HST.cell hl
      have hq1 : (q : Int) < 200 := by omega
      have hq0 : (0 : Int) ≤ (q : Int) := by omega
      clear hU hFr
      go_wp2_with fail
      go_region_held3 (fun w' => St p win (.slice (some ⟨gg, 0, none⟩) (k + 1) cap') k q r L wc w' ∧ w'.cell? ⟨p, 202 + q, none⟩ = some (.int .i64 (r : Nat))) (first | assumption | exact keepS (by assumption) | exact ⟨by assumption, by assumption⟩ | exact keepS ⟨by assumption, by assumption⟩)
        ((go_at_call 56; refine (root_st2 (by assumption) (by omega)).mono ?_; rintro e w' ⟨rfl, hst, c8⟩))
      go_wp2
      have hLl : L.length = k + 1 := by rw [← HL.out, List.length_append, HN.out]; rfl
      have hset : SetAt w' p win L (.slice (some ⟨gg, 0, none⟩) (k + 1) cap') := by
        obtain ⟨P1, S1, c1, d1, hu1, hs1, hl1, _⟩ := hst.1
        refine ⟨by rw [hLl]; exact ⟨P1, S1, c1, d1, hu1, hs1, hl1⟩, ?_, ?_, by omega⟩
        · intro y hy
          rw [← HL.out, List.mem_append] at hy
          rcases hy with hy | hy
          · exact HOK.out y hy
          · rw [List.mem_singleton] at hy; rw [hy]; exact HX.out
        · rw [hLl]
          exact hst.2.own HOWN4.out (fun g hg e => by simp only [Value.ownBlock, Option.some.injEq] at hg; omega)
      have hfr := HF4.out.trans hst.2 (fun k h => .inl (.inl h))
      go_ret2
      exact ⟨rfl, _, hset, hfr, HLOC.out⟩

set_option maxHeartbeats 800000 in
theorem Add_bad (p : Nat) (x : Al) (w : World) (hx : isV x = false) :
    Calls Try.prog 33 #[.pointer (some ⟨p, 0, none⟩), x.val] w fun e w' => e = .returned (.tuple #[.int .i64 0, .int .i64 1]) ∧ Below w.heap.size w w' := by
  obtain ⟨t, c, f, u, a⟩ := x
  have HX := hid hx
  have HXV : Hid (Al.val ⟨t, c, f, u, a⟩ = .agg #[.int .i64 t, .int .i64 c, .int .i64 f, .int .i64 u, .int .i64 a]) := rfl
  rw [HXV.out]
  clear hx
  go_enter Try.func33, Try.ntmps33
  go_wp2_with fail
  refine (valid38_is HX.out _).mono ?_
  rintro e w1 ⟨rfl, hb1⟩
  go_wp2
  go_ret2
  exact ⟨rfl, bl (ba (Below.refl _ _) _) hb1⟩

set_option maxHeartbeats 800000 in
theorem Add_full (p : Nat) (win : Int) (l : List Al) (v : Value) (x : Al) (w : World) (h : SetAt w p win l v) (hx : isV x = true) (hl : l.length = 200) :
    Calls Try.prog 33 #[.pointer (some ⟨p, 0, none⟩), x.val] w fun e w' => e = .returned (.tuple #[.int .i64 0, .int .i64 29]) ∧ Below w.heap.size w w' := by
  obtain ⟨A, cap, rfl, hA⟩ := own_slice h.own
  rw [hl] at h
  obtain ⟨_, _, _, _, _, hs, _⟩ := h.uf
  have ca := hs.als
  have hp := h.uf.lt
  obtain ⟨t, c, f, u, a⟩ := x
  have HX := hid hx
  have HXV : Hid (Al.val ⟨t, c, f, u, a⟩ = .agg #[.int .i64 t, .int .i64 c, .int .i64 f, .int .i64 u, .int .i64 a]) := rfl
  rw [HXV.out]
  clear hx h hs
  go_enter Try.func33, Try.ntmps33
  go_wp2_with fail
  refine (valid38_is HX.out _).mono ?_
  rintro e w1 ⟨rfl, hb1⟩
  have hF := ((Fr.refl (fun _ => False) w).alloc _).call hb1
  have c1 := (hF.cell (q := ⟨p, 1, none⟩) hp id).trans ca
  have HB := hid (bl (ba (Below.refl _ _) _) hb1)
  clear hF hb1 ca
  go_wp2
  go_ret2
  exact ⟨rfl, HB.out⟩
end Go.Proofs.Ytfddnmibjaibhaa
