/- Groups in memory while they are built; the map of places. -/
import Derived.Test.YtfddnmibjaibhaaM7
import Derived.Maps.OwnSet
import Derived.Maps.AppendAt
namespace Go.Proofs.Ytfddnmibjaibhaa
open Go.RowKit Go.Maps

/-! the map of places -/
def ky (r : Nat) : Lit := .int .i64 (r : Nat)
theorem ky_inj {r s : Nat} (h : ky r = ky s) : r = s := by unfold ky at h; injection h with _ h; omega
theorem ky_key (r : Nat) : WideAt.IsKeyLit (ky r) := by unfold ky WideAt.IsKeyLit; trivial
structure MapOk (D : DataW Unit) (n : Nat) (c : Nat → Nat) : Prop where
  has : ∀ r : Nat, Maps.has D (ky r) = true ↔ ∃ j, j < n ∧ c j = r
  pos : ∀ q (hq : q < (fr n c).length), D.atKey (ky (c (fr n c)[q])) (.lit (.int .i64 0)) = .lit (.int .i64 (q : Nat))
theorem MapOk.zero (c : Nat → Nat) : MapOk (.map []) 0 c := ⟨fun r => by simp [Maps.has], fun q hq => by simp [fr] at hq⟩
theorem MapOk.old {D : DataW Unit} {n : Nat} {c : Nat → Nat} (h : MapOk D n c) {j : Nat} (hj : j < n) (hc : c j = c n) : MapOk D (n + 1) c := by
  refine ⟨fun r => ?_, fun q hq => ?_⟩
  · rw [h.has]
    constructor
    · rintro ⟨i, hi, e⟩; exact ⟨i, by omega, e⟩
    · rintro ⟨i, hi, e⟩
      by_cases e1 : i = n
      · subst e1; exact ⟨j, hj, hc.trans e⟩
      · exact ⟨i, by omega, e⟩
  · have e := fr_old hj hc
    have hq' : q < (fr n c).length := by rw [← e]; exact hq
    have := h.pos q hq'
    simpa only [e] using this
theorem MapOk.new {D : DataW Unit} {n : Nat} {c : Nat → Nat} (h : MapOk D n c) (hD : IsMap D) (hn : ∀ j, j < n → c j ≠ c n) : MapOk (D.put (ky (c n)) (.lit (.int .i64 ((fr n c).length : Nat)))) (n + 1) c := by
  refine ⟨fun r => ?_, fun q hq => ?_⟩
  · by_cases e : r = c n
    · subst e
      rw [has_put_same hD (ky_key _)]
      simp only [true_iff]
      exact ⟨n, by omega, rfl⟩
    · rw [has_put_other (fun hh => e (ky_inj hh)), h.has]
      constructor
      · rintro ⟨i, hi, e⟩; exact ⟨i, by omega, e⟩
      · rintro ⟨i, hi, e2⟩
        by_cases e1 : i = n
        · subst e1; exact absurd e2.symm e
        · exact ⟨i, by omega, e2⟩
  · have e := fr_new hn
    by_cases hq' : q < (fr n c).length
    · have e2 : (fr (n + 1) c)[q] = (fr n c)[q] := by simp only [e]; exact List.getElem_append_left hq'
      rw [e2, atKey_put_other (fun hh => hn _ (mem_fr.1 (List.getElem_mem hq')).1 (ky_inj hh))]
      exact h.pos q hq'
    · have hq2 : q = (fr n c).length := by rw [e, List.length_append] at hq; simp at hq; omega
      subst hq2
      have e2 : (fr (n + 1) c)[(fr n c).length] = n := by simp only [e]; simp
      rw [e2, atKey_put_same hD (ky_key _)]

/-! groups in memory -/
/-- the slice v of slices owns the groups gs, each in a block of its own from B on -/
def OG (w : World) (B : Nat) (v : Value) (gs : List (List Nat)) : Prop :=
  ∃ hs : List Value, hs.length = gs.length ∧ w.ownsRow B 31 1 v gs.length hs ∧ (∀ (j : Nat) (h : Value) (l : List Nat), hs[j]? = some h → gs[j]? = some l → w.ownsRow B 3 1 h l.length (nv l)) ∧
    (∀ (j : Nat) (h : Value) (g : Nat), hs[j]? = some h → h.ownBlock = some g → v.ownBlock ≠ some g) ∧ (∀ (i j : Nat) (h h' : Value) (g : Nat), i ≠ j → hs[i]? = some h → hs[j]? = some h' → h.ownBlock = some g → h'.ownBlock ≠ some g)

theorem OG.nil (w : World) (B : Nat) : OG w B (.slice none 0 0) [] := ⟨[], rfl, World.ownsRow_nil _ _ _ _, by simp, by simp, by simp⟩
theorem OG.kept {w w' : World} {B : Nat} {v : Value} {gs : List (List Nat)} {K : Nat → Prop} (h : OG w B v gs) (hf : Fr K w w') (hK : ∀ k, B ≤ k → ¬ K k) : OG w' B v gs := by
  obtain ⟨hs, h1, h2, h3, h4, h5⟩ := h
  exact ⟨hs, h1, hf.own h2 (fun g hg => hK g (h2.lt g hg).1), fun j h l hj hl => hf.own (h3 j h l hj hl) (fun g hg => hK g ((h3 j h l hj hl).lt g hg).1), h4, h5⟩

/-- a nil group more -/
theorem OG.push {w w' : World} {B : Nat} {v v' : Value} {gs : List (List Nat)} {hs : List Value} {o : Obj} (h1 : hs.length = gs.length) (_h2 : w.ownsRow B 31 1 v gs.length hs)
    (h3 : ∀ (j : Nat) (h : Value) (l : List Nat), hs[j]? = some h → gs[j]? = some l → w.ownsRow B 3 1 h l.length (nv l)) (h4 : ∀ (j : Nat) (h : Value) (g : Nat), hs[j]? = some h → h.ownBlock = some g → v.ownBlock ≠ some g) (h5 : ∀ (i j : Nat) (h h' : Value) (g : Nat), i ≠ j → hs[i]? = some h → hs[j]? = some h' → h.ownBlock = some g → h'.ownBlock ≠ some g)
    (hown : w'.ownsRow B 31 1 v' (gs.length + 1) (hs ++ [.slice none 0 0])) (hg : (w.alloc o).grownBy w' v.ownBlock) (hl : v'.ownBlock = v.ownBlock ∨ v'.ownBlock = some (w.heap.size + 1)) : OG w' B v' (gs ++ [[]]) := by
  have hF : Fr (fun k => v.ownBlock = some k) w w' := ((Fr.refl (fun k => v.ownBlock = some k) w).alloc o).grown hg (fun k hk => .inl hk)
  have at_ : ∀ j h, (hs ++ [.slice none 0 0])[j]? = some h → hs[j]? = some h ∨ (j = hs.length ∧ h = .slice none 0 0) := by
    intro j h hj
    by_cases e : j < hs.length
    · left; rwa [List.getElem?_append_left e] at hj
    · rw [List.getElem?_append_right (by omega)] at hj
      by_cases e2 : j - hs.length = 0
      · rw [e2] at hj; simp at hj; exact .inr ⟨by omega, hj.symm⟩
      · rw [List.getElem?_eq_none (by simp; omega)] at hj; simp at hj
  refine ⟨hs ++ [.slice none 0 0], by simp [h1], by rw [List.length_append]; exact hown, ?_, ?_, ?_⟩
  · intro j h l hj hl'
    rcases at_ j h hj with e | ⟨e, rfl⟩
    · have hjl : j < gs.length := by rw [← h1]; exact (List.getElem?_eq_some_iff.1 e).1
      rw [List.getElem?_append_left hjl] at hl'
      exact hF.own (h3 j h l e hl') (fun g hg' e2 => h4 j h g e hg' e2)
    · rw [List.getElem?_append_right (by omega), e, h1, Nat.sub_self] at hl'
      simp at hl'
      subst hl'
      exact World.ownsRow_nil _ _ _ _
  · intro j h g hj hg'
    rcases at_ j h hj with e | ⟨_, rfl⟩
    · rcases hl with e2 | e2
      · rw [e2]; exact h4 j h g e hg'
      · rw [e2]; intro e3
        have hjl : j < gs.length := by rw [← h1]; exact (List.getElem?_eq_some_iff.1 e).1
        have := ((h3 j h gs[j] e (List.getElem?_eq_getElem hjl)).lt g hg').2
        cases e3; omega
    · simp [Value.ownBlock] at hg'
  · intro i j h h' g hij hi hj hg'
    rcases at_ i h hi with e | ⟨_, rfl⟩
    · rcases at_ j h' hj with e' | ⟨_, rfl⟩
      · exact h5 i j h h' g hij e e' hg'
      · simp [Value.ownBlock]
    · simp [Value.ownBlock] at hg'

/-- group k with i behind it -/
theorem OG.upd {w w' : World} {B : Nat} {v h' : Value} {gs : List (List Nat)} {hs : List Value} {o : Obj} {gv cap k i : Nat} {h : Value} {l : List Nat} (h1 : hs.length = gs.length) (h2 : w.ownsRow B 31 1 v gs.length hs)
    (h3 : ∀ (j : Nat) (h : Value) (l : List Nat), hs[j]? = some h → gs[j]? = some l → w.ownsRow B 3 1 h l.length (nv l)) (h4 : ∀ (j : Nat) (h : Value) (g : Nat), hs[j]? = some h → h.ownBlock = some g → v.ownBlock ≠ some g) (h5 : ∀ (i j : Nat) (h h' : Value) (g : Nat), i ≠ j → hs[i]? = some h → hs[j]? = some h' → h.ownBlock = some g → h'.ownBlock ≠ some g)
    (hv : v = .slice (some ⟨gv, 0, none⟩) gs.length cap) (hk : hs[k]? = some h) (hl : gs[k]? = some l)
    (hown : w'.ownsRow B 3 1 h' (l.length + 1) (nv l ++ [.int .i64 (i : Nat)])) (hg : (w.alloc o).grownBy w' h.ownBlock) (hloc : h'.ownBlock = h.ownBlock ∨ h'.ownBlock = some (w.heap.size + 1)) : OG (w'.setCell ⟨gv, k, none⟩ h') B v (gs.set k (l ++ [i])) := by
  have hF : Fr (fun x => h.ownBlock = some x) w w' := ((Fr.refl (fun x => h.ownBlock = some x) w).alloc o).grown hg (fun k hk => .inl hk)
  have hvb : v.ownBlock = some gv := by rw [hv]; rfl
  have hgv := h2.lt gv hvb
  have hkl : k < gs.length := (List.getElem?_eq_some_iff.1 hl).1
  have hne : h'.ownBlock ≠ some gv := by
    rcases hloc with e | e
    · rw [e]; intro e2; exact h4 k h gv hk e2 hvb
    · rw [e]; intro e2; cases e2; omega
  have hv2 : w'.ownsRow B 31 1 v gs.length hs := hF.own h2 (fun g hg' e => h4 k h g hk e hg')
  have hS : Fr (fun x => x = gv) w' (w'.setCell ⟨gv, k, none⟩ h') := (Fr.refl (fun x => x = gv) w').setCell gv k h' (.inl rfl)
  have at_ : ∀ j x, (hs.set k h')[j]? = some x → (j = k ∧ x = h') ∨ (j ≠ k ∧ hs[j]? = some x) := by
    intro j x hj
    rw [List.getElem?_set] at hj
    by_cases e : k = j
    · rw [if_pos e, if_pos (by rw [h1]; omega)] at hj
      left; exact ⟨e.symm, by simpa using hj.symm⟩
    · rw [if_neg e] at hj; right; exact ⟨fun e' => e e'.symm, hj⟩
  subst hv
  have hst := hv2.stored k h'
  refine ⟨hs.set k h', by simp [h1], by rw [List.length_set]; exact hst.1, ?_, ?_, ?_⟩
  · intro j x m hj hm
    rcases at_ j x hj with ⟨rfl, rfl⟩ | ⟨e, hj'⟩
    · rw [List.getElem?_set_self hkl] at hm
      simp at hm
      subst hm
      have := hS.own hown (fun g hg' e => by subst e; exact hne hg')
      simpa [nv] using this
    · rw [List.getElem?_set_ne (fun e' => e e'.symm)] at hm
      have a1 := hF.own (h3 j x m hj' hm) (fun g hg' e2 => h5 j k x h g e hj' hk hg' e2)
      exact hS.own a1 (fun g hg' e2 => by subst e2; exact h4 j x _ hj' hg' rfl)
  · intro j x g hj hg'
    rcases at_ j x hj with ⟨rfl, rfl⟩ | ⟨e, hj'⟩
    · intro e2; simp only [Value.ownBlock, Option.some.injEq] at e2; subst e2; exact hne hg'
    · exact h4 j x g hj' hg'
  · intro a b x y g hab ha hb hg'
    rcases at_ a x ha with ⟨rfl, rfl⟩ | ⟨e, ha'⟩
    · rcases at_ b y hb with ⟨rfl, rfl⟩ | ⟨e', hb'⟩
      · exact absurd rfl hab
      · rcases hloc with e2 | e2
        · exact h5 a b h y g hab hk hb' (by rw [← e2]; exact hg')
        · intro e3
          have hbl : b < gs.length := by rw [← h1]; exact (List.getElem?_eq_some_iff.1 hb').1
          have := ((h3 b y gs[b] hb' (List.getElem?_eq_getElem hbl)).lt g e3).2
          rw [e2] at hg'; cases hg'; omega
    · rcases at_ b y hb with ⟨rfl, rfl⟩ | ⟨e', hb'⟩
      · rcases hloc with e2 | e2
        · rw [e2]; exact h5 a b x h g hab ha' hk hg'
        · intro e3
          have hal : a < gs.length := by rw [← h1]; exact (List.getElem?_eq_some_iff.1 ha').1
          have := ((h3 a x gs[a] ha' (List.getElem?_eq_getElem hal)).lt g hg').2
          rw [e2] at e3; cases e3; omega
      · exact h5 a b x y g hab ha' hb' hg'
end Go.Proofs.Ytfddnmibjaibhaa
