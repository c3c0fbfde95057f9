/- The set in memory; root. -/
import Derived.Test.YtfddnmibjaibhaaM3
import Derived.WalkMore
import Derived.ScopeJumps
import Derived.Great.Walk
namespace Go.Proofs.Ytfddnmibjaibhaa
open Go.RowKit

/-- the cells of a set: window, alerts, parents, sizes -/
def setF (win : Int) (v : Value) (P S : Nat → Nat) (i : Nat) : Value :=
  if i = 0 then .int .i64 win else if i = 1 then v else if i < 202 then .int .i64 (P (i - 2) : Nat) else .int .i64 (S (i - 202) : Nat)

theorem setF_P (win : Int) (v : Value) (P S : Nat → Nat) (i : Nat) (hi : i < 200) : setF win v P S (2 + i) = .int .i64 (P i : Nat) := by
  unfold setF; rw [if_neg (by omega), if_neg (by omega), if_pos (by omega), Nat.add_sub_cancel_left]
theorem setF_S (win : Int) (v : Value) (P S : Nat → Nat) (i : Nat) : setF win v P S (202 + i) = .int .i64 (S i : Nat) := by
  unfold setF; rw [if_neg (by omega), if_neg (by omega), if_neg (by omega), Nat.add_sub_cancel_left]
/-- block p is a set's -/
def SetB (w : World) (p : Nat) (win : Int) (v : Value) (P S : Nat → Nat) : Prop := w.rowIs p 76 402 (setF win v P S)
theorem SetB.par {w : World} {p : Nat} {win : Int} {v : Value} {P S : Nat → Nat} (h : SetB w p win v P S) {i : Nat} (hi : i < 200) : w.cell? ⟨p, 2 + i, none⟩ = some (.int .i64 (P i : Nat)) := by
  have := World.rowIs.cell h (i := 2 + i) (by omega); rwa [setF_P _ _ _ _ _ hi] at this
theorem SetB.size {w : World} {p : Nat} {win : Int} {v : Value} {P S : Nat → Nat} (h : SetB w p win v P S) {i : Nat} (hi : i < 200) : w.cell? ⟨p, 202 + i, none⟩ = some (.int .i64 (S i : Nat)) := by
  have := World.rowIs.cell h (i := 202 + i) (by omega); rwa [setF_S] at this
theorem SetB.setP {w : World} {p : Nat} {win : Int} {v : Value} {P S : Nat → Nat} (h : SetB w p win v P S) (i k : Nat) (hi : i < 200) : SetB (w.setCell ⟨p, 2 + i, none⟩ (.int .i64 (k : Nat))) p win v (fun j => if j = i then k else P j) S := by
  refine (World.rowIs.set h (2 + i) _).congr fun j hj => ?_
  by_cases e : j = 2 + i
  · subst e; rw [if_pos rfl, setF_P _ _ _ _ _ hi, if_pos rfl]
  · rw [if_neg e]; unfold setF
    split; rfl
    split; rfl
    split
    · have : ¬ j - 2 = i := by omega
      simp only [this, if_false]
    · rfl
theorem SetB.setS {w : World} {p : Nat} {win : Int} {v : Value} {P S : Nat → Nat} (h : SetB w p win v P S) (i k : Nat) (hi : i < 200) : SetB (w.setCell ⟨p, 202 + i, none⟩ (.int .i64 (k : Nat))) p win v P (fun j => if j = i then k else S j) := by
  refine (World.rowIs.set h (202 + i) _).congr fun j hj => ?_
  by_cases e : j = 202 + i
  · subst e; rw [if_pos rfl, setF_S, if_pos rfl]
  · rw [if_neg e]; unfold setF
    split; rfl
    split; rfl
    split; rfl
    have : ¬ j - 202 = i := by omega
    simp only [this, if_false]

theorem gbSet (w : World) (p i : Nat) (v : Value) : w.grownBy (w.setCell ⟨p, i, none⟩ v) (some p) :=
  ⟨rfl, rfl, rfl, by simp, fun k _ hk => by simp [World.setCell, Array.getElem?_modify]; intro e; exact absurd (by rw [e]) hk⟩

theorem gbDrew {w w' : World} {r : Option Nat} (h : w.grownBy w' r) : w.grownBy w'.drew r := ⟨h.os, h.tape, h.output, h.size, h.block⟩

theorem root_any (p : Nat) (win : Int) (v : Value) (n : Nat) (P S c d : Nat → Nat) (i : Nat) (w : World) (hu : UF n P S c d) (hn : n ≤ 200) (hi : i < n) (hb : SetB w p win v P S) :
    Calls Try.prog 56 #[.pointer (some ⟨p, 0, none⟩), .int .i64 (i : Nat)] w fun e w' => e = .returned (.int .i64 (c i : Nat)) ∧ ∃ P', UF n P' S c d ∧ SetB w' p win v P' S ∧ w.grownBy w' (some p) ∧ w'.heap.size = w.heap.size := by
  have HU := hid hu
  have HB := hid hb
  clear hu hb
  go_enter Try.func56, Try.ntmps56
  go_wp2
  go_step3
  go_wp2
  go_step3
  go_wp2
  go_loopw [1] (fun iv wr => ∃ (j : Nat) (Q : Nat → Nat), j < n ∧ iv = .int .i64 (j : Nat) ∧ Hid (c j = c i) ∧ Hid (UF n Q S c d) ∧ Hid (SetB wr p win v Q S) ∧ Hid (w.grownBy wr (some p)) ∧ Hid (wr.heap.size = w.heap.size)) (fun iv _ => d (intOf iv).toNat)
  case atStart => exact ⟨i, P, hi, rfl, rfl, HU, HB, ⟨rfl, rfl, rfl, Nat.le_refl _, fun _ _ _ => rfl⟩, rfl⟩
  case round =>
    obtain ⟨j, Q, hj, rfl, hcj, hu, hb, hg, hs⟩ := hrel
    obtain ⟨k, hk⟩ : ∃ k, Q j = k := ⟨_, rfl⟩
    have c1 := hb.out.par (i := j) (by omega)
    rw [hk] at c1
    have HK := hid hk
    clear hk
    by_cases he : k = j
    · subst he
      go_wp2
      rw [Exit.noGoto_ret]
      go_ret
      have ec : c k = k := (hu.out.pr k hj).1 HK.out
      exact ⟨ret_int (by rw [← hcj.out, ec]), Q, hu.out, hb.out, hg.out, hs.out⟩
    · have hkn : k < n := by rw [← HK.out]; exact hu.out.pb j hj
      obtain ⟨m, hm⟩ : ∃ m, Q k = m := ⟨_, rfl⟩
      have c2 := hb.out.par (i := k) (by omega)
      rw [hm] at c2
      have HM := hid hm
      clear hm
      have hmn : m < n := by rw [← HM.out]; exact hu.out.pb k hkn
      have f1 := World.rowIs.frozen hb.out (2 + j)
      have he' : ((k : Int) == (j : Int)) = false := by simp; omega
      go_wp2_with fail
      go_region
      go_wp2
      go_roundw
      case rel =>
        have hb' := hb.out.setP j m (by omega)
        have hu' := hu.out.halve hj (by rw [HK.out]; exact he)
        rw [HK.out, HM.out] at hu'
        exact ⟨m, _, hmn, rfl, by unfold Hid; rw [← hcj.out, ← HM.out, hu.out.cp k hkn, ← HK.out, hu.out.cp j hj], hu', hb', gbDrew (hg.out.trans (gbSet wr p _ _)), by have := hs.out; simpa [Hid] using this⟩
      case measure =>
        have h1 := hu.out.dl j hj (by rw [HK.out]; exact he)
        rw [HK.out] at h1
        have h2 : d m ≤ d k := by
          by_cases e : m = k
          · rw [e]; exact Nat.le_refl _
          · have := hu.out.dl k hkn (by rw [HM.out]; exact e)
            rw [HM.out] at this; omega
        simp [intOf]; omega

theorem gbDrewN {w w' : World} {r : Option Nat} (h : w.grownBy w' r) (m : Nat) : w.grownBy (w'.drewN m) r := ⟨h.os, h.tape, h.output, h.size, h.block⟩
theorem gbRefl (w : World) (r : Option Nat) : w.grownBy w r := ⟨rfl, rfl, rfl, Nat.le_refl _, fun _ _ _ => rfl⟩
theorem root_is {p : Nat} {win : Int} {v : Value} {n : Nat} {P S c d : Nat → Nat} {i r : Nat} (hr : c i = r) (w : World) (hu : UF n P S c d) (hn : n ≤ 200) (hi : i < n) (hb : SetB w p win v P S) :
    Calls Try.prog 56 #[.pointer (some ⟨p, 0, none⟩), .int .i64 (i : Nat)] w fun e w' => e = .returned (.int .i64 (r : Nat)) ∧ ∃ P', UF n P' S c d ∧ SetB w' p win v P' S ∧ w.grownBy w' (some p) ∧ w'.heap.size = w.heap.size := by
  subst hr; exact root_any p win v n P S c d i w hu hn hi hb

set_option maxHeartbeats 800000 in
/-- join: the groups of i and k are one; nothing else turns but the set's block. -/
theorem join_any (p : Nat) (win : Int) (v : Value) (n : Nat) (P S c d : Nat → Nat) (i k : Nat) (w : World) (hu : UF n P S c d) (hn : n ≤ 200) (hi : i < n) (hk : k < n) (hb : SetB w p win v P S) :
    Calls Try.prog 55 #[.pointer (some ⟨p, 0, none⟩), .int .i64 (i : Nat), .int .i64 (k : Nat)] w fun e w' => e = .returned (.tuple #[]) ∧ ∃ P' S' c' d', UF n P' S' c' d' ∧ SetB w' p win v P' S' ∧ w.grownBy w' (some p) ∧ w'.heap.size = w.heap.size ∧
      ∀ x y, x < n → y < n → (c' x = c' y ↔ c x = c y ∨ (c x = c i ∧ c y = c k) ∨ (c x = c k ∧ c y = c i)) := by
  obtain ⟨a, ha⟩ : ∃ a, c i = a := ⟨_, rfl⟩
  obtain ⟨b, hb'⟩ : ∃ b, c k = b := ⟨_, rfl⟩
  have HA := hid ha
  have HB := hid hb'
  clear ha hb'
  have han : a < n := by rw [← HA.out]; exact hu.cb i hi
  have hbn : b < n := by rw [← HB.out]; exact hu.cb k hk
  have ra : c a = a := by rw [← HA.out]; exact hu.cc i hi
  have rb : c b = b := by rw [← HB.out]; exact hu.cc k hk
  have RA := hid ra
  have RB := hid rb
  have HU := hid hu
  have HS := hid hb
  clear hu hb ra rb
  rw [HA.out, HB.out]
  go_enter Try.func55, Try.ntmps55
  go_wp2_with fail
  refine (root_is HA.out _ HU.out hn hi HS.out).mono ?_
  rintro e w1 ⟨rfl, P1, hu1, hb1, hg1, hs1⟩
  have HU1 := hid hu1
  have HS1 := hid hb1
  have HG1 := hid hg1
  have HZ1 := hid hs1
  clear hu1 hb1 hg1 hs1
  go_wp2_with fail
  refine (root_is HB.out _ HU1.out hn hk HS1.out).mono ?_
  rintro e w2 ⟨rfl, P2, hu2, hb2, hg2, hs2⟩
  have HU2 := hid hu2
  have HS2 := hid hb2
  have HG2 := hid (HG1.out.trans hg2)
  have HZ2 := hid (hs2.trans HZ1.out)
  clear hu2 hb2 hg2 hs2 HU1 HS1 HG1 HZ1 HU HS
  by_cases hab : a = b
  · subst hab
    go_wp2
    refine bodyPost_ret (v := .tuple #[]) (by simp [results, Try.results55, go_sem]) rfl ?_
    exact ⟨rfl, P2, S, c, d, HU2.out, HS2.out, HG2.out, HZ2.out, fun x y _ _ => by omega⟩
  · obtain ⟨s, hs⟩ : ∃ s, S a = s := ⟨_, rfl⟩
    obtain ⟨t, ht⟩ : ∃ t, S b = t := ⟨_, rfl⟩
    have hsn : s ≤ n := by rw [← hs, HU2.out.sz a han RA.out]; exact mem_le _ _ _
    have htn : t ≤ n := by rw [← ht, HU2.out.sz b hbn RB.out]; exact mem_le _ _ _
    have c1 := HS2.out.size (i := a) (by omega)
    have c2 := HS2.out.size (i := b) (by omega)
    rw [hs] at c1
    rw [ht] at c2
    have d1 := HS2.out.par (i := a) (by omega)
    have d2 := HS2.out.par (i := b) (by omega)
    rw [show P2 a = a from (HU2.out.pr a han).2 RA.out] at d1
    rw [show P2 b = b from (HU2.out.pr b hbn).2 RB.out] at d2
    have HSa := hid hs
    have HSb := hid ht
    clear hs ht
    have f1 := World.rowIs.frozen HS2.out (2 + a)
    have f2 := World.rowIs.frozen HS2.out (2 + b)
    have f3 := World.rowIs.frozen HS2.out (202 + a)
    have f4 := World.rowIs.frozen HS2.out (202 + b)
    by_cases hlt : s < t
    · skip
      go_wp2
      go_quiet (fail)
      go_wp2
      go_region
      all_goals
        go_wp2
        refine Go.Great.bodyPost_end0 rfl rfl ?_
        have e : ((t : Nat) : Int) + ((s : Nat) : Int) = ((t + s : Nat) : Int) := by omega
        rw [e]
        have hu := HU2.out.join hbn han RB.out RA.out (Ne.symm hab)
        have hb := (SetB.setP (w := w2.drewN nq) HS2.out a b (by omega)).setS b (t + s) (by omega)
        rw [← HSb.out, ← HSa.out] at hb ⊢
        exact ⟨rfl, _, _, _, _, hu, hb, gbDrew (((gbDrewN HG2.out nq).trans (gbSet (w2.drewN nq) p _ _)).trans (gbSet _ p _ _)), by have := HZ2.out; simpa using this, fun x y _ _ => by rw [join_same (Ne.symm hab)]; omega⟩
    · skip
      go_wp2
      go_quiet (fail)
      go_wp2
      go_region
      all_goals
        go_wp2
        refine Go.Great.bodyPost_end0 rfl rfl ?_
        have e : ((s : Nat) : Int) + ((t : Nat) : Int) = ((s + t : Nat) : Int) := by omega
        rw [e]
        have hu := HU2.out.join han hbn RA.out RB.out hab
        have hb := (SetB.setP (w := w2.drewN nq) HS2.out b a (by omega)).setS a (s + t) (by omega)
        rw [← HSa.out, ← HSb.out] at hb ⊢
        exact ⟨rfl, _, _, _, _, hu, hb, gbDrew (((gbDrewN HG2.out nq).trans (gbSet (w2.drewN nq) p _ _)).trans (gbSet _ p _ _)), by have := HZ2.out; simpa using this, fun x y _ _ => by rw [join_same hab]⟩
end Go.Proofs.Ytfddnmibjaibhaa
