/- Same of the reference of merge. -/
import Derived.Test.YtfddnmibjaibhaaMB
namespace Go.Proofs.Ytfddnmibjaibhaa
open Go.RowKit

theorem takeN_succ {α : Type} {xs ys : List α} {k : Nat} {x y : α} (hk : xs[k]? = some x) (hk' : ys[k]? = some y) : xs.take (k + 1) = ys.take (k + 1) ↔ xs.take k = ys.take k ∧ x = y := by
  obtain ⟨h1, rfl⟩ := List.getElem?_eq_some_iff.1 hk
  obtain ⟨h2, rfl⟩ := List.getElem?_eq_some_iff.1 hk'
  rw [List.take_succ_eq_append_getElem h1, List.take_succ_eq_append_getElem h2]
  constructor
  · intro h
    have := List.append_inj h (by simp; omega)
    exact ⟨this.1, by simpa using this.2⟩
  · rintro ⟨h1, h2⟩; rw [h1, h2]
theorem RowN.at_ {w : World} {lo hi : Nat} {A : Option Addr} {l : List Nat} (h : RowN w lo hi A l) (hl : 0 < l.length) : ∃ b, A = some ⟨b, 0, none⟩ ∧ b < hi ∧ ∀ j x, l[j]? = some x → w.cell? ⟨b, j, none⟩ = some (.int .i64 (x : Nat)) := by
  rcases h with h | ⟨b, h1, _, h3, h4⟩
  · rw [h] at hl; simp at hl
  · exact ⟨b, h1, h3, h4⟩
theorem RowG.at_ {w : World} {lo hi : Nat} {A : Option Addr} {gs : List (List Nat)} (h : RowG w lo hi A gs) (hl : 0 < gs.length) : ∃ b, A = some ⟨b, 0, none⟩ ∧ b < hi ∧ ∀ j l, gs[j]? = some l → ∃ A' c, w.cell? ⟨b, j, none⟩ = some (.slice A' l.length c) ∧ RowN w lo hi A' l := by
  rcases h with h | ⟨b, h1, _, h3, h4⟩
  · rw [h] at hl; simp at hl
  · exact ⟨b, h1, h3, h4⟩

set_option maxHeartbeats 3200000 in
set_option maxRecDepth 100000 in
theorem Same_any (A1 A2 : Option Addr) (c1 c2 lo1 hi1 lo2 hi2 : Nat) (gs hs : List (List Nat)) (w : World) (h1 : RowG w lo1 hi1 A1 gs) (h2 : RowG w lo2 hi2 A2 hs) (hx : gs.length ≤ 1000000) (hy : hs.length ≤ 1000000)
    (hX : ∀ l ∈ gs, l.length ≤ 1000000) (hY : ∀ l ∈ hs, l.length ≤ 1000000) :
    Calls Try.prog 37 #[.slice A1 gs.length c1, .slice A2 hs.length c2] w fun e w' => e = .returned (.bool (decide (gs = hs))) ∧ Below w.heap.size w w' := by
  obtain ⟨r, hr⟩ : ∃ r, decide (gs = hs) = r := ⟨_, rfl⟩
  rw [hr]
  have HR := hid hr
  clear hr
  have H1 := hid h1
  have H2 := hid h2
  have HX := hid hX
  have HY := hid hY
  obtain ⟨n, hn⟩ : ∃ n, gs.length = n := ⟨_, rfl⟩
  obtain ⟨m, hm⟩ : ∃ m, hs.length = m := ⟨_, rfl⟩
  have HN := hid hn
  have HM := hid hm
  rw [hn] at hx ⊢
  rw [hm] at hy ⊢
  clear h1 h2 hX hY hn hm
  by_cases hnm : n = m
  · subst hnm
    go_enter Try.func37, Try.ntmps37
    go_wp2
    go_loopw [5] (fun i wr => ∃ k m : Nat, k ≤ n ∧ i = .int .i64 (k : Nat) ∧ wr = w.drewN m ∧ Hid (gs.take k = hs.take k)) (fun i _ => n - (intOf i).toNat)
    case atStart => exact ⟨0, 0, Nat.zero_le _, rfl, rfl, by simp [Hid]⟩
    case round =>
      obtain ⟨k, m, hk, rfl, rfl, heq⟩ := hrel
      by_cases hkn : k < n
      · obtain ⟨l1, hl1⟩ : ∃ l, gs[k]? = some l := ⟨_, List.getElem?_eq_getElem (by rw [HN.out]; exact hkn)⟩
        obtain ⟨l2, hl2⟩ : ∃ l, hs[k]? = some l := ⟨_, List.getElem?_eq_getElem (by rw [HM.out]; exact hkn)⟩
        obtain ⟨b1, rfl, hb1, g1⟩ := H1.out.at_ (by rw [HN.out]; omega)
        obtain ⟨b2, rfl, hb2, g2⟩ := H2.out.at_ (by rw [HM.out]; omega)
        obtain ⟨B1, d1, e1, r1⟩ := g1 k l1 hl1
        obtain ⟨B2, d2, e2, r2⟩ := g2 k l2 hl2
        have q1 := HX.out l1 (List.mem_of_getElem? hl1)
        have q2 := HY.out l2 (List.mem_of_getElem? hl2)
        have HT := hid (takeN_succ hl1 hl2)
        have HL1 := hid hl1
        have HL2 := hid hl2
        have R1 := hid r1
        have R2 := hid r2
        obtain ⟨n1, hn1⟩ : ∃ a, l1.length = a := ⟨_, rfl⟩
        obtain ⟨n2, hn2⟩ : ∃ a, l2.length = a := ⟨_, rfl⟩
        rw [hn1] at e1 q1
        rw [hn2] at e2 q2
        have HN1 := hid hn1
        have HN2 := hid hn2
        clear g1 g2 hl1 hl2 r1 r2 hn1 hn2
        by_cases hlen : n1 = n2
        · subst hlen
          go_wp2_with fail
          go_quiet (fail)
          go_wp2_with fail
          go_loopw [6] (fun i wr => ∃ j m : Nat, j ≤ n1 ∧ i = .int .i64 (j : Nat) ∧ wr = w.drewN m ∧ Hid (l1.take j = l2.take j)) (fun i _ => n1 - (intOf i).toNat)
          case atStart => exact ⟨0, _, Nat.zero_le _, rfl, World.drewN_drewN _ _ _, by simp [Hid]⟩
          case round =>
            obtain ⟨j, m', hj, rfl, rfl, heq2⟩ := hrel
            by_cases hjn : j < n1
            · obtain ⟨x1, hx1⟩ : ∃ l, l1[j]? = some l := ⟨_, List.getElem?_eq_getElem (by rw [HN1.out]; exact hjn)⟩
              obtain ⟨x2, hx2⟩ : ∃ l, l2[j]? = some l := ⟨_, List.getElem?_eq_getElem (by rw [HN2.out]; exact hjn)⟩
              obtain ⟨f1, rfl, hf1, t1⟩ := R1.out.at_ (by rw [HN1.out]; omega)
              obtain ⟨f2, rfl, hf2, t2⟩ := R2.out.at_ (by rw [HN2.out]; omega)
              have y1 := t1 j x1 hx1
              have y2 := t2 j x2 hx2
              have HT2 := hid (takeN_succ hx1 hx2)
              clear t1 t2 hx1 hx2
              by_cases hxx : x1 = x2
              · subst hxx
                go_wp2_with fail
                go_quiet (fail)
                go_wp2
                go_roundw
                case rel => exact ⟨j + 1, _, by omega, by go_num, rfl, HT2.out.2 ⟨heq2.out, trivial⟩⟩
                case measure => simp [intOf]; omega
              · have ex : ((x1 : Int) == (x2 : Int)) = false := by simp; omega
                go_wp2_with fail
                go_quiet (fail)
                go_wp2
                go_ret
                refine ⟨ret_bool ?_, bl (dN _ _) (dN _ _)⟩
                rw [← HR.out]; symm; rw [decide_eq_false_iff_not]
                intro h
                have := (HT.out.1 (by rw [h])).2
                exact hxx (HT2.out.1 (by rw [this])).2
            · obtain rfl : j = n1 := by omega
              have hll : l1 = l2 := by
                have := heq2.out
                rwa [List.take_of_length_le (by rw [HN1.out]; exact Nat.le_refl _), List.take_of_length_le (by rw [HN2.out]; exact Nat.le_refl _)] at this
              have HT3 := hid (HT.out.2 ⟨heq.out, hll⟩)
              clear hll
              go_wp2
              go_roundw
              case rel => exact ⟨k + 1, _, by omega, by go_num, rfl, HT3⟩
              case measure => simp [intOf]; omega
        · have ex : ((n1 : Int) == (n2 : Int)) = false := by simp; omega
          go_wp2_with fail
          go_quiet (fail)
          go_wp2
          go_ret
          refine ⟨ret_bool ?_, bl (dN _ _) (dN _ _)⟩
          rw [← HR.out]; symm; rw [decide_eq_false_iff_not]
          intro h
          have := (HT.out.1 (by rw [h])).2
          rw [this] at HN1
          exact hlen (HN1.out.symm.trans HN2.out)
      · obtain rfl : k = n := by omega
        go_wp2
        go_ret
        refine ⟨ret_bool ?_, dN _ _⟩
        rw [← HR.out]; symm; rw [decide_eq_true_iff]
        have := heq.out
        rwa [List.take_of_length_le (by rw [HN.out]; exact Nat.le_refl _), List.take_of_length_le (by rw [HM.out]; exact Nat.le_refl _)] at this
  · go_enter Try.func37, Try.ntmps37
    go_wp2
    go_ret
    refine ⟨ret_bool ?_, Below.refl _ _⟩
    rw [← HR.out]; symm; rw [decide_eq_false_iff_not]
    intro h
    exact hnm (by rw [← HN.out, ← HM.out, h])
end Go.Proofs.Ytfddnmibjaibhaa
