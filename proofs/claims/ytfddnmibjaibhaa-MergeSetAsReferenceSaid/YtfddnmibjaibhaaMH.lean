/- The arguments of the merge laws opened: a slice of alerts, an alert; Groups at any list. -/
import Derived.Test.YtfddnmibjaibhaaMG
import Derived.Lib.SmallJoins
import Derived.Deep.Slices
import Derived.Deep.Fields
import Derived.ChangeSame
namespace Go.Proofs.Ytfddnmibjaibhaa
open Go.Joins Go.ChangeShapes Go.WideShapes Go.RowKit Go.Deep

section
variable {H : Type} {enc : TypeId × Value → H} {P : Program} {w : World} {base : Nat} {spare : Nat → Bool} {held : Bool}
theorem open_slice_fields {t e : TypeId} {fs : Array Field} {fuel : Nat} {cs : List Value} {x : DataW H × List MemPlace} (ht : P.underlying t = some (.slice e)) (he : P.underlying e = some (.struct fs))
    (hone : oneCellFields P fs = true) (hC : P.cellsOf e = fs.size) (h : DataW.trod enc P w base spare held fuel t cs = some x) :
    (cs = [.slice none 0 0] ∧ x = (.nil, [])) ∨
    ∃ (a : Addr) (len cap m : Nat) (D : Nat → DataW H) (Pl : Nat → List MemPlace), cs = [.slice (some a) len cap] ∧ base ≤ a.block ∧ len ≤ cap ∧ cap ≤ maxLen ∧ m = (if spare a.block then cap else len) ∧
      x = (.slice ((List.range len).map D) ((List.range (m - len)).map fun j => D (len + j)), MemPlace.row a (m * fs.size) ++ (List.range m).flatMap Pl) ∧
      ∀ i, i < m → ∃ (ys : List (DataW H × List MemPlace)) (n : Nat), D i = .agg (ys.map (·.1)) ∧ Pl i = ys.flatMap (·.2) ∧ ys.length = fs.size ∧
        ∀ (j : Nat) (f : Field), fs[j]? = some f → ∃ (v : Value) (y : DataW H × List MemPlace), w.cell? (a.add (i * fs.size + j)) = some v ∧ ys[j]? = some y ∧ DataW.trod enc P w base spare held n f.type [v] = some y := by
  rcases open_slice ht h with h0 | ⟨a, len, cap, m, n, D, Pl, hcs, hb, hl, hm, hmm, hx, hi⟩
  · exact .inl h0
  · refine .inr ⟨a, len, cap, m, D, Pl, hcs, hb, hl, hm, hmm, by rw [hC] at hx; exact hx, fun i him => ?_⟩
    obtain ⟨cs', hc, ht'⟩ := hi i him
    rw [hC] at hc
    obtain ⟨ys, n', hn', hy, hlen, hyl, hf⟩ := DataW.trod_struct he ht'
    obtain ⟨_, hcl, hat⟩ := World.cells?_some hc
    simp only [Prod.mk.injEq] at hy
    refine ⟨ys, n', hy.1, hy.2, hyl, fun j f hj => ?_⟩
    obtain ⟨ho, hk⟩ := hone_of hone j f hj
    have hjl : j < fs.size := (Array.getElem?_eq_some_iff.1 hj).1
    have hcell := hat j hjl
    have hv : cs'[j]? = some (cs'[j]'(by omega)) := List.getElem?_eq_getElem (by omega)
    have h1 := hf j f hj
    rw [ho, hk] at h1
    have hone' : (cs'.drop j).take 1 = [cs'[j]'(by omega)] := by
      rw [List.drop_eq_getElem_cons (by omega)]
      rfl
    rw [hone'] at h1
    have hys : ys[j]? = some (ys[j]'(by omega)) := List.getElem?_eq_getElem (by omega)
    refine ⟨_, _, ?_, hys, h1.trans hys⟩
    rw [← Go.Deep.add_add, hcell, hv]
theorem open_agg5 {r : Reach} {b0 : Nat} {t : TypeId} {f0 f1 f2 f3 f4 : Field} {v : Value} {d : DataW H} {p : List MemPlace} (hs : P.underlying t = some (.struct #[f0, f1, f2, f3, f4])) (hone : oneCellFields P #[f0, f1, f2, f3, f4] = true) (hC : P.cellsOf t = 5)
    (hv : Value.okWide P w r b0 t v) (h : DataW.Trod enc P w base spare held t v d p) :
    ∃ (v0 v1 v2 v3 v4 : Value) (y0 y1 y2 y3 y4 : DataW H × List MemPlace) (n : Nat), v = .agg #[v0, v1, v2, v3, v4] ∧ d = .agg [y0.1, y1.1, y2.1, y3.1, y4.1] ∧ p = y0.2 ++ (y1.2 ++ (y2.2 ++ (y3.2 ++ y4.2))) ∧
      DataW.trod enc P w base spare held n f0.type [v0] = some y0 ∧ DataW.trod enc P w base spare held n f1.type [v1] = some y1 ∧ DataW.trod enc P w base spare held n f2.type [v2] = some y2 ∧ DataW.trod enc P w base spare held n f3.type [v3] = some y3 ∧ DataW.trod enc P w base spare held n f4.type [v4] = some y4 := by
  obtain ⟨cs, rfl, hsz⟩ := okWide_struct hs hv
  obtain ⟨l⟩ := cs
  match l, hsz.trans hC with
  | [c0, c1, c2, c3, c4], _ =>
    obtain ⟨fuel, hf⟩ := h
    obtain ⟨xs, n, _, hx, _, hlen, hg⟩ := DataW.trod_struct hs hf
    obtain ⟨o0, k0⟩ := hone_of hone 0 f0 rfl
    obtain ⟨o1, k1⟩ := hone_of hone 1 f1 rfl
    obtain ⟨o2, k2⟩ := hone_of hone 2 f2 rfl
    obtain ⟨o3, k3⟩ := hone_of hone 3 f3 rfl
    obtain ⟨o4, k4⟩ := hone_of hone 4 f4 rfl
    match xs, hlen with
    | [y0, y1, y2, y3, y4], _ =>
      simp only [Prod.mk.injEq] at hx
      exact ⟨c0, c1, c2, c3, c4, y0, y1, y2, y3, y4, n, rfl, by simpa using hx.1, by simpa using hx.2, by simpa [Value.cells, o0, k0] using hg 0 f0 rfl, by simpa [Value.cells, o1, k1] using hg 1 f1 rfl, by simpa [Value.cells, o2, k2] using hg 2 f2 rfl, by simpa [Value.cells, o3, k3] using hg 3 f3 rfl, by simpa [Value.cells, o4, k4] using hg 4 f4 rfl⟩
end

theorem five (P : Nat → Int → Prop) (h : ∀ j, j < 5 → ∃ a, P j a) : ∃ x : Al, P 0 x.t ∧ P 1 x.c ∧ P 2 x.f ∧ P 3 x.v ∧ P 4 x.a := by
  obtain ⟨t, h0⟩ := h 0 (by omega)
  obtain ⟨c, h1⟩ := h 1 (by omega)
  obtain ⟨f, h2⟩ := h 2 (by omega)
  obtain ⟨v, h3⟩ := h 3 (by omega)
  obtain ⟨a, h4⟩ := h 4 (by omega)
  exact ⟨⟨t, c, f, v, a⟩, h0, h1, h2, h3, h4⟩
theorem acell_of {x : Al} {P : Nat → Option Value} (h0 : P 0 = some (.int .i64 x.t)) (h1 : P 1 = some (.int .i64 x.c)) (h2 : P 2 = some (.int .i64 x.f)) (h3 : P 3 = some (.int .i64 x.v)) (h4 : P 4 = some (.int .i64 x.a)) : ∀ i, i < 5 → P i = (acell x)[i]? := by
  intro i hi
  match i, hi with
  | 0, _ => simpa [acell] using h0
  | 1, _ => simpa [acell] using h1
  | 2, _ => simpa [acell] using h2
  | 3, _ => simpa [acell] using h3
  | 4, _ => simpa [acell] using h4

theorem field_int {H : Type} {enc : TypeId × Value → H} {W : World} {base : Nat} {spare : Nat → Bool} {held : Bool} {n : Nat} {v : Value} {y : DataW H × List MemPlace} (h : DataW.trod enc Try.prog W base spare held n 3 [v] = some y) : ∃ a, v = .int .i64 a := by
  obtain ⟨a, e, _, _⟩ := DataW.trod_int Try.underlying3 h
  exact ⟨a, by simpa using e⟩

set_option maxRecDepth 100000 in
/-- A []Alert that comes in: a list of alerts in memory. -/
theorem open_alerts {H : Type} {enc : TypeId × Value → H} {W : World} {spare : Nat → Bool} {held : Bool} {v : Value} {d : DataW H} {p : List MemPlace}
    (hv : Value.okWide Try.prog W .any 0 42 v) (h : DataW.Trod enc Try.prog W 0 spare held 42 v d p) :
    ∃ (A : Option Addr) (l : List Al) (c : Nat), v = .slice A l.length c ∧ l.length ≤ maxLen ∧ RowA W W.heap.size A l := by
  obtain ⟨A0, len0, cap0, rfl⟩ := okWide_slice Try.underlying42 hv
  obtain ⟨fuel, hf⟩ := h
  rcases open_slice_fields Try.underlying42 Try.underlying52 (by kernel_rfl) (by kernel_rfl) hf with ⟨hc, _⟩ | ⟨a, len, cap, m, D, Pl, hc, _, hl, hm, hmm, _, hi⟩
  · simp [Value.cells] at hc
    obtain ⟨rfl, rfl, rfl⟩ := hc
    exact ⟨none, [], 0, rfl, Nat.zero_le _, .inl rfl⟩
  · simp [Value.cells] at hc
    obtain ⟨rfl, rfl, rfl⟩ := hc
    have hlm : len0 ≤ m := by rw [hmm]; split <;> omega
    have hx : ∀ i, i < len0 → ∃ x : Al, ∀ j, j < 5 → W.cell? (a.add (i * 5 + j)) = (acell x)[j]? := by
      intro i hil
      obtain ⟨ys, n, _, _, hyl, hfj⟩ := hi i (by omega)
      obtain ⟨x, x0, x1, x2, x3, x4⟩ := five (fun j a' => W.cell? (a.add (i * 5 + j)) = some (.int .i64 a')) (fun j hj => by
        match j, hj with
        | 0, _ => obtain ⟨v, y, e1, _, e3⟩ := hfj 0 _ rfl; obtain ⟨z, rfl⟩ := field_int e3; exact ⟨z, e1⟩
        | 1, _ => obtain ⟨v, y, e1, _, e3⟩ := hfj 1 _ rfl; obtain ⟨z, rfl⟩ := field_int e3; exact ⟨z, e1⟩
        | 2, _ => obtain ⟨v, y, e1, _, e3⟩ := hfj 2 _ rfl; obtain ⟨z, rfl⟩ := field_int e3; exact ⟨z, e1⟩
        | 3, _ => obtain ⟨v, y, e1, _, e3⟩ := hfj 3 _ rfl; obtain ⟨z, rfl⟩ := field_int e3; exact ⟨z, e1⟩
        | 4, _ => obtain ⟨v, y, e1, _, e3⟩ := hfj 4 _ rfl; obtain ⟨z, rfl⟩ := field_int e3; exact ⟨z, e1⟩)
      exact ⟨x, acell_of (P := fun j => W.cell? (a.add (i * 5 + j))) x0 x1 x2 x3 x4⟩
    obtain ⟨g, hg⟩ : ∃ g : Nat → Al, ∀ i, i < len0 → ∀ j, j < 5 → W.cell? (a.add (i * 5 + j)) = (acell (g i))[j]? := by
      refine ⟨fun i => if h : i < len0 then Classical.choose (hx i h) else ⟨0, 0, 0, 0, 0⟩, fun i h => ?_⟩
      simp only [h, dif_pos]
      exact Classical.choose_spec (hx i h)
    refine ⟨some a, (List.range len0).map g, cap0, by simp, by simp; omega, ?_⟩
    by_cases h0 : len0 = 0
    · subst h0; exact .inl rfl
    · have c0 := hg 0 (by omega) 0 (by omega)
      have c0 : W.cell? a = some (.int .i64 (g 0).t) := by simpa [Addr.add, acell] using c0
      obtain ⟨b, o, s⟩ := a
      have hs : s = none := by
        cases s with
        | none => rfl
        | some z => exfalso; unfold World.cell? at c0; revert c0; cases W.heap[b]? with
          | none => simp
          | some ob => cases ob <;> simp
      subst hs
      refine .inr ⟨b, o, rfl, World.block_lt_of_cell? W _ c0, fun j x hj i hi5 => ?_⟩
      rw [List.getElem?_map] at hj
      obtain ⟨j', hj', rfl⟩ := Option.map_eq_some_iff.1 hj
      obtain ⟨h1, h2⟩ := List.getElem?_eq_some_iff.1 hj'
      simp at h1 h2
      subst h2
      rw [← hg j h1 i hi5, Addr.add]
      split
      · have : j = 0 ∧ i = 0 := by omega
        obtain ⟨rfl, rfl⟩ := this; rfl
      · simp [Nat.add_assoc]

set_option maxRecDepth 100000 in
/-- An alert that comes in. -/
theorem open_alert {H : Type} {enc : TypeId × Value → H} {W : World} {spare : Nat → Bool} {held : Bool} {v : Value} {d : DataW H} {p : List MemPlace}
    (hv : Value.okWide Try.prog W .any 0 52 v) (h : DataW.Trod enc Try.prog W 0 spare held 52 v d p) : ∃ x : Al, v = x.val := by
  obtain ⟨v0, v1, v2, v3, v4, y0, y1, y2, y3, y4, n, rfl, _, _, h0, h1, h2, h3, h4⟩ := open_agg5 Try.underlying52 (by kernel_rfl) (by kernel_rfl) hv h
  obtain ⟨a0, rfl⟩ := field_int h0
  obtain ⟨a1, rfl⟩ := field_int h1
  obtain ⟨a2, rfl⟩ := field_int h2
  obtain ⟨a3, rfl⟩ := field_int h3
  obtain ⟨a4, rfl⟩ := field_int h4
  exact ⟨⟨a0, a1, a2, a3, a4⟩, rfl⟩

theorem few_any (A : Option Addr) (c n : Nat) (w : World) (hn : n ≤ maxLen) :
    Calls Try.prog 29 #[.slice A n c] w fun e w' => e = .returned (.bool (decide (n ≤ 24 ∨ (200 < n ∧ n ≤ 210)))) ∧ w = w' := by
  unfold maxLen at hn
  by_cases h1 : n ≤ 24
  · go_enter Try.func29, Try.ntmps29
    go_wp2
    go_ret
    exact ⟨ret_bool (by first | rfl | (rw [Bool.eq_iff_iff]; simp; omega)), rfl⟩
  · by_cases h2 : 200 < n
    · go_enter Try.func29, Try.ntmps29
      go_wp2
      go_ret
      exact ⟨ret_bool (by rw [Bool.eq_iff_iff]; simp; omega), rfl⟩
    · go_enter Try.func29, Try.ntmps29
      go_wp2
      go_ret
      exact ⟨ret_bool (by rw [Bool.eq_iff_iff]; simp; omega), rfl⟩

/-- 'of' at groups whose number has a name -/
theorem of_is {n G : Nat} {c : Nat → Nat} (hG : (gl n c).length = G) {A : Option Addr} {lo hi : Nat} (cp : Nat) (w : World) (hR : RowG w lo hi A (gl n c)) (hhi : hi ≤ w.heap.size) (hn : n ≤ 200) :
    Calls Try.prog 31 #[.slice A G cp, .int .i64 (n : Nat)] w fun e w' => e = .returned (.tuple #[.slice (some ⟨w.heap.size, 0, none⟩) n n, .bool true]) ∧ w'.rowIs w.heap.size 3 n (fun j => .int .i64 ((idx n c j + 1 : Nat))) ∧ Below w.heap.size w w' := by
  subst hG; exact of_any A cp lo hi n c w hR hhi hn

/-- do the alerts and the window go through? -/
def okG (win : Int) (l : List Al) : Bool := decide (l.length ≤ 200) && isM win && allV l
theorem okG_of {win : Int} {l : List Al} : okG win l = true ↔ l.length ≤ 200 ∧ isM win = true ∧ allV l = true := by unfold okG; simp [and_assoc]
def errG (l : List Al) : Int := if 200 < l.length then 2 else 1
/-- Groups at any list of at most a million alerts -/
theorem Groups_u (A : Option Addr) (c : Nat) (l : List Al) (win : Int) (w : World) (hn : l.length ≤ 1000000) (hA : RowA w w.heap.size A l) :
    Calls Try.prog 30 #[.slice A l.length c, .int .i64 win] w fun e w' => Below w.heap.size w w' ∧
      ((okG win l = true ∧ ∃ A' c', e = .returned (.tuple #[.slice A' (grp win l).length c', .int .i64 0]) ∧ RowG w' w.heap.size w'.heap.size A' (grp win l)) ∨
       (okG win l = false ∧ e = .returned (.tuple #[.slice none 0 0, .int .i64 (errG l)]))) := by
  by_cases h1 : 200 < l.length
  · refine (Groups_long A c _ win w h1 hn).mono ?_
    rintro e w' ⟨rfl, rfl⟩
    refine ⟨Below.refl _ _, .inr ⟨?_, by unfold errG; rw [if_pos h1]⟩⟩
    rw [Bool.eq_false_iff]; intro h; have := (okG_of.1 h).1; omega
  · have e1 : errG l = 1 := by unfold errG; rw [if_neg h1]
    cases hw : isM win with
    | false =>
      refine (Groups_win A c _ win w (by omega) hw).mono ?_
      rintro e w' ⟨rfl, rfl⟩
      refine ⟨Below.refl _ _, .inr ⟨?_, by rw [e1]⟩⟩
      rw [Bool.eq_false_iff]; intro h; have := (okG_of.1 h).2.1; rw [hw] at this; cases this
    | true =>
      refine (Groups_any A c l win w (by omega) hw hA).mono ?_
      rintro e w' ⟨hb, ⟨hv, hr⟩ | ⟨hv, rfl⟩⟩
      · exact ⟨hb, .inl ⟨okG_of.2 ⟨by omega, hw, hv⟩, hr⟩⟩
      · refine ⟨hb, .inr ⟨?_, by rw [e1]⟩⟩
        rw [Bool.eq_false_iff]; intro h; have := (okG_of.1 h).2.2; rw [hv] at this; cases this
end Go.Proofs.Ytfddnmibjaibhaa
