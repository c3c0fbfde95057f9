/- Helpers for the reference's Groups: one pass over the least indices; a whole group more in memory. -/
import Derived.Test.YtfddnmibjaibhaaMN
namespace Go.Proofs.Ytfddnmibjaibhaa
open Go.RowKit Go.Maps

/-- a pass that began at L is at the pair (i, j) with L' and 'more' -/
structure Ps (E : Nat → Nat → Bool) (n : Nat) (L L' : Nat → Nat) (more : Bool) (i j : Nat) : Prop where
  lw : Lw E n L'
  less : more = true → sumN n L' < sumN n L
  same : more = false → L' = L ∧ ∀ a b, a < n → b < n → (a < i ∨ (a = i ∧ b < j)) → E a b = true → ¬ L b < L a
theorem Ps.start {E : Nat → Nat → Bool} {n : Nat} {L : Nat → Nat} (h : Lw E n L) : Ps E n L L false 0 0 := ⟨h, fun h => by simp at h, fun _ => ⟨rfl, fun a b _ _ h => by omega⟩⟩
theorem Ps.skip {E : Nat → Nat → Bool} {n : Nat} {L L' : Nat → Nat} {more : Bool} {i j : Nat} (h : Ps E n L L' more i j) (hp : E i j = true → ¬ L' j < L' i) : Ps E n L L' more i (j + 1) := by
  refine ⟨h.lw, h.less, fun hm => ?_⟩
  obtain ⟨h1, h2⟩ := h.same hm
  refine ⟨h1, fun a b ha hb hab he => ?_⟩
  by_cases e : a = i ∧ b = j
  · obtain ⟨rfl, rfl⟩ := e
    rw [h1] at hp
    exact hp he
  · exact h2 a b ha hb (by omega) he
theorem Ps.hit {E : Nat → Nat → Bool} {n : Nat} {L L' : Nat → Nat} {more : Bool} {i j : Nat} (h : Ps E n L L' more i j) (hi : i < n) (hj : j < n) (hE : E i j = true) (hlt : L' j < L' i) : Ps E n L (fun q => if q = i then L' j else L' q) true i (j + 1) := by
  refine ⟨h.lw.step hi hj hE hlt, fun _ => ?_, fun hm => by simp at hm⟩
  have h1 := sumN_step (L := L') hi hlt
  cases more with
  | true => have := h.less rfl; omega
  | false => have := (h.same rfl).1; rw [this] at h1 ⊢; exact h1
theorem Ps.row {E : Nat → Nat → Bool} {n : Nat} {L L' : Nat → Nat} {more : Bool} {i : Nat} (h : Ps E n L L' more i n) : Ps E n L L' more (i + 1) 0 := by
  refine ⟨h.lw, h.less, fun hm => ?_⟩
  obtain ⟨h1, h2⟩ := h.same hm
  exact ⟨h1, fun a b ha hb hab he => h2 a b ha hb (by omega) he⟩
theorem Ps.done {E : Nat → Nat → Bool} {n : Nat} {L L' : Nat → Nat} (h : Ps E n L L' false n 0) : L' = L ∧ Done E n L' := by
  obtain ⟨h1, h2⟩ := h.same rfl
  exact ⟨h1, fun a b ha hb he => by rw [h1]; exact h2 a b ha hb (by omega) he⟩

/-- the sum of the first n cells of a block -/
def mL (w : World) (b n : Nat) : Nat := sumN n (fun j => match w.cell? ⟨b, j, none⟩ with | some (.int _ z) => z.toNat | _ => 0)
theorem mL_row {w : World} {b n : Nat} {L : Nat → Nat} (h : w.rowIs b 3 n (fun j => .int .i64 (L j : Nat))) : mL w b n = sumN n L := by
  unfold mL sumN
  congr 1
  refine List.map_congr_left fun j hj => ?_
  rw [h.cell (List.mem_range.1 hj)]
  simp
/-- one for 'true' -/
def mb (v : Value) : Nat := match v with | .bool true => 1 | _ => 0
theorem mb_true : mb (.bool true) = 1 := rfl
theorem mb_false : mb (.bool false) = 0 := rfl

theorem own_le {w : World} {base base' size n : Nat} {e : TypeId} {v : Value} {xs : List Value} (h : w.ownsRow base e size v n xs) (hb : base' ≤ base) : w.ownsRow base' e size v n xs := by
  refine ⟨h.1, ?_⟩
  rcases h.2 with h0 | ⟨g, cap, cur, e1, h1, h2⟩
  · exact .inl h0
  · exact .inr ⟨g, cap, cur, e1, Nat.le_trans hb h1, h2⟩
/-- a whole group more -/
theorem og_push2 {wi w : World} {B : Nat} {v h0 : Value} {gs : List (List Nat)} {l0 : List Nat} (h : OG wi B v gs) (hB : B ≤ wi.heap.size) (hb : Below wi.heap.size wi w) (h0own : w.ownsRow wi.heap.size 3 1 h0 l0.length (nv l0)) :
    ∃ hs, w.ownsRow B 31 1 v gs.length hs ∧ ∀ (o : Obj) (v' : Value) (w' : World), w'.ownsRow B 31 1 v' (gs.length + 1) (hs ++ [h0]) → (w.alloc o).grownBy w' v.ownBlock →
      (v'.ownBlock = v.ownBlock ∨ v'.ownBlock = some (w.heap.size + 1)) → OG w' B v' (gs ++ [l0]) ∧ Fr (fun x => B ≤ x) w w' := by
  obtain ⟨hs, h1, h2, h3, h4, h5⟩ := h
  have hK : Fr (fun _ => False) wi w := (Fr.refl _ wi).call hb
  have k2 := hK.own h2 (fun _ _ => id)
  have k3 : ∀ (j : Nat) (h : Value) (l : List Nat), hs[j]? = some h → gs[j]? = some l → w.ownsRow B 3 1 h l.length (nv l) := fun j h l hj hl => hK.own (h3 j h l hj hl) (fun _ _ => id)
  have sepv : ∀ g, h0.ownBlock = some g → v.ownBlock ≠ some g := fun g hg e => by have := (h0own.lt g hg).1; have := (h2.lt g e).2; omega
  have seph : ∀ g, h0.ownBlock = some g → ∀ (j : Nat) (h : Value), hs[j]? = some h → h.ownBlock ≠ some g := fun g hg j h hj e => by
    have hjl : j < gs.length := by rw [← h1]; exact (List.getElem?_eq_some_iff.1 hj).1
    have := (h0own.lt g hg).1
    have := ((h3 j h gs[j] hj (List.getElem?_eq_getElem hjl)).lt g e).2
    omega
  refine ⟨hs, k2, fun o v' w' hown hg hl => ⟨?_, ((Fr.refl (fun x => B ≤ x) w).alloc o).grown hg (fun k hk => .inl (k2.lt k hk).1)⟩⟩
  have hF : Fr (fun k => v.ownBlock = some k) w w' := ((Fr.refl (fun k => v.ownBlock = some k) w).alloc o).grown hg (fun k hk => .inl hk)
  have at_ : ∀ j h, (hs ++ [h0])[j]? = some h → hs[j]? = some h ∨ (j = hs.length ∧ h = h0) := by
    intro j h hj
    by_cases e : j < hs.length
    · left; rwa [List.getElem?_append_left e] at hj
    · rw [List.getElem?_append_right (by omega)] at hj
      by_cases e2 : j - hs.length = 0
      · rw [e2] at hj; simp at hj; exact .inr ⟨by omega, hj.symm⟩
      · rw [List.getElem?_eq_none (by simp; omega)] at hj; simp at hj
  have hnew : ∀ (j : Nat) (h : Value) (g : Nat), hs[j]? = some h → h.ownBlock = some g → v'.ownBlock ≠ some g := fun j h g e hg' => by
    rcases hl with e2 | e2
    · rw [e2]; exact h4 j h g e hg'
    · rw [e2]; intro e3
      have hjl : j < gs.length := by rw [← h1]; exact (List.getElem?_eq_some_iff.1 e).1
      have := ((k3 j h gs[j] e (List.getElem?_eq_getElem hjl)).lt g hg').2
      cases e3; omega
  refine ⟨hs ++ [h0], by simp [h1], by rw [List.length_append]; exact hown, ?_, ?_, ?_⟩
  · intro j h l hj hl'
    rcases at_ j h hj with e | ⟨e, rfl⟩
    · have hjl : j < gs.length := by rw [← h1]; exact (List.getElem?_eq_some_iff.1 e).1
      rw [List.getElem?_append_left hjl] at hl'
      exact hF.own (k3 j h l e hl') (fun g hg' e2 => h4 j h g e hg' e2)
    · rw [List.getElem?_append_right (by omega), e, h1, Nat.sub_self] at hl'
      simp at hl'
      subst hl'
      exact hF.own (own_le h0own hB) (fun g hg' e2 => sepv g hg' e2)
  · intro j h g hj hg'
    rcases at_ j h hj with e | ⟨_, rfl⟩
    · exact hnew j h g e hg'
    · rcases hl with e2 | e2
      · rw [e2]; exact sepv g hg'
      · rw [e2]; intro e3
        have := (h0own.lt g hg').2
        cases e3; omega
  · intro i j h h' g hij hi hj hg'
    rcases at_ i h hi with e | ⟨e0, rfl⟩
    · rcases at_ j h' hj with e' | ⟨_, rfl⟩
      · exact h5 i j h h' g hij e e' hg'
      · intro e3; exact seph g e3 i h e hg'
    · rcases at_ j h' hj with e' | ⟨e1, rfl⟩
      · exact seph g hg' j h' e'
      · omega
theorem okG_valid {win : Int} {l : List Al} (h : ∀ x ∈ l, isV x = true) (hl : l.length ≤ 200) (hw : isM win = true) : okG win l = true := okG_of.2 ⟨hl, hw, allV_of.2 h⟩
theorem okG_bad {win : Int} {l : List Al} {x : Al} (hx : x ∈ l) (h : isV x = false) : okG win l = false := by
  rw [Bool.eq_false_iff]; intro hh; have := allV_of.1 (okG_of.1 hh).2.2 x hx; rw [h] at this; cases this
theorem okG_win {win : Int} {l : List Al} (h : isM win = false) : okG win l = false := by
  rw [Bool.eq_false_iff]; intro hh; have := (okG_of.1 hh).2.1; rw [h] at this; cases this
theorem okG_long {win : Int} {l : List Al} (h : 200 < l.length) : okG win l = false := by
  rw [Bool.eq_false_iff]; intro hh; have := (okG_of.1 hh).1; omega
end Go.Proofs.Ytfddnmibjaibhaa
