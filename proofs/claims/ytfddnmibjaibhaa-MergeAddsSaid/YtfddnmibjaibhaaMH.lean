/- The arguments of the merge laws opened: a slice of alerts, an alert; Groups at any list. -/
import Derived.Test.YtfddnmibjaibhaaMG
import Derived.Lib.SmallJoins
import Derived.Deep.Slices
import Derived.ChangeSame
namespace Go.Proofs.Ytfddnmibjaibhaa
open Go.Joins Go.ChangeShapes Go.WideShapes Go.RowKit Go.Deep

/-- the cells of an alert that comes in: five integers -/
theorem alert_cells {H : Type} {enc : TypeId × Value → H} {W : World} {base : Nat} {spare : Nat → Bool} {held : Bool} {fuel : Nat} {cs : List Value} {x : DataW H × List MemPlace}
    (hC : Try.prog.cellsOf 52 = 5) (h1 : Try.prog.cellsOf 3 = 1) (h : DataW.trod enc Try.prog W base spare held fuel 52 cs = some x) : ∃ y : Al, cs = acell y := by
  obtain ⟨xs, n, _, _, hl, hxs, hf⟩ := DataW.trod_struct Try.underlying52 h
  rw [hC] at hl
  have hxs : xs.length = 5 := hxs
  -- each field is the cell of its number, an integer
  have key : ∀ j, j < 5 → DataW.trod enc Try.prog W base spare held n 3 ((cs.drop j).take 1) = xs[j]? → ∃ a, cs[j]? = some (.int .i64 a) := by
    intro j hj hk
    obtain ⟨y, hy⟩ : ∃ y, xs[j]? = some y := ⟨_, List.getElem?_eq_getElem (by omega)⟩
    rw [hy] at hk
    obtain ⟨a, ha, _⟩ := DataW.trod_int Try.underlying3 hk
    refine ⟨a, ?_⟩
    have : ((cs.drop j).take 1)[0]? = some (.int .i64 a) := by rw [ha]; rfl
    simpa [List.getElem?_take, List.getElem?_drop] using this
  have g0 : DataW.trod enc Try.prog W base spare held n 3 ((cs.drop 0).take (Try.prog.cellsOf 3)) = xs[0]? := hf 0 _ rfl
  have g1 : DataW.trod enc Try.prog W base spare held n 3 ((cs.drop 1).take (Try.prog.cellsOf 3)) = xs[1]? := hf 1 _ rfl
  have g2 : DataW.trod enc Try.prog W base spare held n 3 ((cs.drop 2).take (Try.prog.cellsOf 3)) = xs[2]? := hf 2 _ rfl
  have g3 : DataW.trod enc Try.prog W base spare held n 3 ((cs.drop 3).take (Try.prog.cellsOf 3)) = xs[3]? := hf 3 _ rfl
  have g4 : DataW.trod enc Try.prog W base spare held n 3 ((cs.drop 4).take (Try.prog.cellsOf 3)) = xs[4]? := hf 4 _ rfl
  rw [h1] at g0 g1 g2 g3 g4
  obtain ⟨t, e0⟩ := key 0 (by omega) g0
  obtain ⟨c, e1⟩ := key 1 (by omega) g1
  obtain ⟨f, e2⟩ := key 2 (by omega) g2
  obtain ⟨v, e3⟩ := key 3 (by omega) g3
  obtain ⟨a, e4⟩ := key 4 (by omega) g4
  refine ⟨⟨t, c, f, v, a⟩, List.ext_getElem? fun j => ?_⟩
  match j with
  | 0 => exact e0
  | 1 => exact e1
  | 2 => exact e2
  | 3 => exact e3
  | 4 => exact e4
  | j + 5 => rw [List.getElem?_eq_none (by omega)]; rfl

set_option maxRecDepth 100000 in
/-- A []Alert that comes in: a list of alerts in memory. -/
theorem open_alerts {H : Type} {enc : TypeId × Value → H} {W : World} {spare : Nat → Bool} {held : Bool} {v : Value} {d : DataW H} {p : List MemPlace}
    (hv : Value.okWide Try.prog W .any 0 42 v) (h : DataW.Trod enc Try.prog W 0 spare held 42 v d p) :
    ∃ (A : Option Addr) (l : List Al) (c : Nat), v = .slice A l.length c ∧ l.length ≤ maxLen ∧ RowA W W.heap.size A l := by
  obtain ⟨A0, len0, cap0, rfl⟩ := okWide_slice Try.underlying42 hv
  obtain ⟨fuel, hf⟩ := h
  have hC : Try.prog.cellsOf 52 = 5 := by kernel_rfl
  rcases open_slice Try.underlying42 hf with ⟨hc, _⟩ | ⟨a, len, cap, m, n, D, Pl, hc, _, hl, hm, hmm, _, hi⟩
  · simp [Value.cells] at hc
    obtain ⟨rfl, rfl, rfl⟩ := hc
    exact ⟨none, [], 0, rfl, Nat.zero_le _, .inl rfl⟩
  · simp [Value.cells] at hc
    obtain ⟨rfl, rfl, rfl⟩ := hc
    have hlm : len0 ≤ m := by rw [hmm]; split <;> omega
    have hx : ∀ i, i < len0 → ∃ x : Al, ∀ j, j < 5 → W.cell? (a.add (i * 5 + j)) = (acell x)[j]? := by
      intro i hil
      obtain ⟨cs', hcs, ht⟩ := hi i (by omega)
      rw [hC] at hcs
      obtain ⟨x, rfl⟩ := alert_cells hC (by kernel_rfl) ht
      exact ⟨x, fun j hj => by rw [← Go.Deep.add_add]; exact (World.cells?_some hcs).2.2 j hj⟩
    obtain ⟨g, hg⟩ : ∃ g : Nat → Al, ∀ i, i < len0 → ∀ j, j < 5 → W.cell? (a.add (i * 5 + j)) = (acell (g i))[j]? := by
      refine ⟨fun i => if h : i < len0 then Classical.choose (hx i h) else ⟨0, 0, 0, 0, 0⟩, fun i h => ?_⟩
      simp only [h, dif_pos]
      exact Classical.choose_spec (hx i h)
    refine ⟨some a, (List.range len0).map g, cap0, by simp, by simp; omega, ?_⟩
    by_cases h0 : len0 = 0
    · subst h0; exact .inl rfl
    · have c0 := hg 0 (by omega) 0 (by omega)
      have c0 : W.cell? a = some (.int .i64 (g 0).t) := by simpa [Addr.add, acell] using c0
      obtain ⟨b, o, s⟩ := a
      have hs : s = none := by
        cases s with
        | none => rfl
        | some z => exfalso; unfold World.cell? at c0; revert c0; cases W.heap[b]? with
          | none => simp
          | some ob => cases ob <;> simp
      subst hs
      refine .inr ⟨b, o, rfl, World.block_lt_of_cell? W _ c0, fun j x hj i hi5 => ?_⟩
      rw [List.getElem?_map] at hj
      obtain ⟨j', hj', rfl⟩ := Option.map_eq_some_iff.1 hj
      obtain ⟨h1, h2⟩ := List.getElem?_eq_some_iff.1 hj'
      simp at h1 h2
      subst h2
      rw [← hg j h1 i hi5, Addr.add]
      split
      · have : j = 0 ∧ i = 0 := by omega
        obtain ⟨rfl, rfl⟩ := this; rfl
      · simp [Nat.add_assoc]

set_option maxRecDepth 100000 in
/-- An alert that comes in. -/
theorem open_alert {H : Type} {enc : TypeId × Value → H} {W : World} {spare : Nat → Bool} {held : Bool} {v : Value} {d : DataW H} {p : List MemPlace}
    (hv : Value.okWide Try.prog W .any 0 52 v) (h : DataW.Trod enc Try.prog W 0 spare held 52 v d p) : ∃ x : Al, v = x.val := by
  obtain ⟨cs, rfl, _⟩ := okWide_struct Try.underlying52 hv
  obtain ⟨fuel, hf⟩ := h
  obtain ⟨x, hx⟩ := alert_cells (by kernel_rfl) (by kernel_rfl) hf
  refine ⟨x, ?_⟩
  have hx : cs.toList = acell x := by simpa [Value.cells] using hx
  have : cs = (acell x).toArray := by rw [← hx]
  rw [this]; rfl

theorem few_any (A : Option Addr) (c n : Nat) (w : World) (hn : n ≤ maxLen) :
    Calls Try.prog 29 #[.slice A n c] w fun e w' => e = .returned (.bool (decide (n ≤ 24 ∨ (200 < n ∧ n ≤ 210)))) ∧ w = w' := by
  unfold maxLen at hn
  by_cases h1 : n ≤ 24
  · go_enter Try.func29, Try.ntmps29
    go_wp2
    go_ret
    exact ⟨ret_bool (by first | rfl | (rw [Bool.eq_iff_iff]; simp; omega)), rfl⟩
  · by_cases h2 : 200 < n
    · go_enter Try.func29, Try.ntmps29
      go_wp2
      go_ret
      exact ⟨ret_bool (by rw [Bool.eq_iff_iff]; simp; omega), rfl⟩
    · go_enter Try.func29, Try.ntmps29
      go_wp2
      go_ret
      exact ⟨ret_bool (by rw [Bool.eq_iff_iff]; simp; omega), rfl⟩

/-- 'of' at groups whose number has a name -/
theorem of_is {n G : Nat} {c : Nat → Nat} (hG : (gl n c).length = G) {A : Option Addr} {lo hi : Nat} (cp : Nat) (w : World) (hR : RowG w lo hi A (gl n c)) (hhi : hi ≤ w.heap.size) (hn : n ≤ 200) :
    Calls Try.prog 31 #[.slice A G cp, .int .i64 (n : Nat)] w fun e w' => e = .returned (.tuple #[.slice (some ⟨w.heap.size, 0, none⟩) n n, .bool true]) ∧ w'.rowIs w.heap.size 3 n (fun j => .int .i64 ((idx n c j + 1 : Nat))) ∧ Below w.heap.size w w' := by
  subst hG; exact of_any A cp lo hi n c w hR hhi hn

/-- do the alerts and the window go through? -/
def okG (win : Int) (l : List Al) : Bool := decide (l.length ≤ 200) && isM win && allV l
theorem okG_of {win : Int} {l : List Al} : okG win l = true ↔ l.length ≤ 200 ∧ isM win = true ∧ allV l = true := by unfold okG; simp [and_assoc]
def errG (l : List Al) : Int := if 200 < l.length then 2 else 1
/-- Groups at any list of at most a million alerts -/
theorem Groups_u (A : Option Addr) (c : Nat) (l : List Al) (win : Int) (w : World) (hn : l.length ≤ 1000000) (hA : RowA w w.heap.size A l) :
    Calls Try.prog 30 #[.slice A l.length c, .int .i64 win] w fun e w' => Below w.heap.size w w' ∧
      ((okG win l = true ∧ ∃ A' c', e = .returned (.tuple #[.slice A' (grp win l).length c', .int .i64 0]) ∧ RowG w' w.heap.size w'.heap.size A' (grp win l)) ∨
       (okG win l = false ∧ e = .returned (.tuple #[.slice none 0 0, .int .i64 (errG l)]))) := by
  by_cases h1 : 200 < l.length
  · refine (Groups_long A c _ win w h1 hn).mono ?_
    rintro e w' ⟨rfl, rfl⟩
    refine ⟨Below.refl _ _, .inr ⟨?_, by unfold errG; rw [if_pos h1]⟩⟩
    rw [Bool.eq_false_iff]; intro h; have := (okG_of.1 h).1; omega
  · have e1 : errG l = 1 := by unfold errG; rw [if_neg h1]
    cases hw : isM win with
    | false =>
      refine (Groups_win A c _ win w (by omega) hw).mono ?_
      rintro e w' ⟨rfl, rfl⟩
      refine ⟨Below.refl _ _, .inr ⟨?_, by rw [e1]⟩⟩
      rw [Bool.eq_false_iff]; intro h; have := (okG_of.1 h).2.1; rw [hw] at this; cases this
    | true =>
      refine (Groups_any A c l win w (by omega) hw hA).mono ?_
      rintro e w' ⟨hb, ⟨hv, hr⟩ | ⟨hv, rfl⟩⟩
      · exact ⟨hb, .inl ⟨okG_of.2 ⟨by omega, hw, hv⟩, hr⟩⟩
      · refine ⟨hb, .inr ⟨?_, by rw [e1]⟩⟩
        rw [Bool.eq_false_iff]; intro h; have := (okG_of.1 h).2.2; rw [hv] at this; cases this
end Go.Proofs.Ytfddnmibjaibhaa
