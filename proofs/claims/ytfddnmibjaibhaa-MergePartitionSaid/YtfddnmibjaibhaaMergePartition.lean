/- MergePartition returns true at every input: each index is in exactly one group, all in order; close alerts are in one group; from the first alert of a group all others are reached by way of close alerts of the group. No conditions. -/
import Derived.Test.YtfddnmibjaibhaaRows
import Derived.Test.YtfddnmibjaibhaaML
import Derived.ProofKit
import Derived.OpenShut
import Derived.ChangeOld
import Derived.Below
import Derived.Lib.SmallJoins
namespace Go.Proofs.Ytfddnmibjaibhaa.mergePartition
open Go.ChangeShapes Go.WideShapes Go.ChangeAt Go.RowKit Go.Joins
set_option linter.unusedVariables false

set_option maxHeartbeats 3200000 in
set_option maxRecDepth 100000 in
theorem walk (w : World) (A : Option Addr) (l : List Al) (cp : Nat) (hz : l.length ≤ maxLen) (hA : RowA w w.heap.size A l) (a1 : Int) (_w1 : (Lit.int .i64 a1).wf = true) :
    Calls Try.prog 12 #[.slice A l.length cp, .int .i64 a1] w fun e w' => e = .returned (.bool true) ∧ Below w.heap.size w w' := by
  obtain ⟨n, hn⟩ : ∃ n, l.length = n := ⟨_, rfl⟩
  rw [hn] at hz ⊢
  have HN := hid hn
  have HA := hid hA
  have HZ := hid hz
  have hzm : n ≤ 2 ^ 63 - 1 := hz
  clear hn hA hz
  obtain ⟨f, hf⟩ : ∃ f, decide (n ≤ 24 ∨ (200 < n ∧ n ≤ 210)) = f := ⟨_, rfl⟩
  have HF := hid hf
  clear hf
  go_enter Try.func12, Try.ntmps12
  go_wp2_with fail
  refine (head38_any _).mono ?_
  rintro e w3 ⟨rfl, hb3⟩
  have HB3 := hid hb3
  clear hb3
  go_wp2_with fail
  refine (few_any _ _ _ _ HZ.out).mono ?_
  rintro e w4 ⟨rfl, rfl⟩
  rw [HF.out]
  cases f
  · go_wp2
    go_ret
    exact ⟨rfl, HB3.out⟩
  · have hn1 : n ≤ 210 := by have := of_decide_eq_true HF.out; omega
    have hA3 := HA.out.kept (hb := HB3.out)
    have HA3 := hid (hA3.wide HB3.out.size)
    clear hA3
    obtain ⟨E, hE⟩ : ∃ E, errG l = E := ⟨_, rfl⟩
    have HE := hid hE
    clear hE
    go_wp2_with fail
    refine (Groups_n HN.out HE.out _ _ _ _ (by omega) HA3.out).mono ?_
    rintro e w5 ⟨hb5, hr5⟩
    have HB5 := hid (bl HB3.out hb5)
    have HA5 := hid ((HA3.out.kept hb5).wide hb5.size)
    clear hb5
    rcases hr5 with ⟨hk5, A5, c5, rfl, hG5⟩ | ⟨hk5, rfl⟩
    all_goals
      have HK5 := hid hk5
      clear hk5
    · have HG5 := hid hG5
      clear hG5
      have hl200 : n ≤ 200 := by rw [← HN.out]; exact (okG_of.1 HK5.out).1
      have hle := col_least a1 l
      rw [HN.out] at hle
      obtain ⟨c, hc⟩ : ∃ c, col a1 l = c := ⟨_, rfl⟩
      rw [hc] at HG5 hle ⊢
      clear hc
      have HLE := hid hle
      obtain ⟨G1, hG1⟩ : ∃ x, (gl n c).length = x := ⟨_, rfl⟩
      have HG1 := hid hG1
      have hG1n : G1 ≤ n := by rw [← hG1, gl_length]; exact fr_le n c
      rw [hG1]
      clear hle hG1
      go_wp2_with fail
      refine (of_is HG1.out _ _ HG5.out (Nat.le_refl _) hl200).mono ?_
      rintro e w6 ⟨rfl, hr6, hb6⟩
      have HR6 := hid hr6
      have HB6 := hid (bl HB5.out hb6)
      have HH6 := hid (HG5.out.call hb6)
      have HA6 := hid ((HA5.out.kept hb6).wide hb6.size)
      have hs6 : w5.heap.size < w6.heap.size := World.rowIs.lt hr6
      clear hr6 hb6 HG5 HA5
      have HV := hid (allV_of.1 (okG_of.1 HK5.out).2.2)
      go_wp2_with fail
      go_loopw [10] (fun i wr => ∃ q : Nat, q ≤ n ∧ i = .int .i64 (q : Nat) ∧ Hid (Below w6.heap.size w6 wr)) (fun i _ => n - (intOf i).toNat)
      case atStart => exact ⟨0, Nat.zero_le _, rfl, Below.refl _ _⟩
      case round =>
        obtain ⟨i, hi, rfl, hB⟩ := hrel
        by_cases hin : i < n
        · have hil : i < l.length := by rw [HN.out]; exact hin
          obtain ⟨b, o, rfl, hbs, hcell⟩ := rowA_cells HA6.out (by omega)
          have HC := hid hcell
          clear hcell
          go_wp2_with fail
          go_loopw [11] (fun j wr => ∃ q : Nat, q ≤ i ∧ j = .int .i64 (q : Nat) ∧ Hid (Below w6.heap.size w6 wr)) (fun j _ => i - (intOf j).toNat)
          case atStart => exact ⟨0, Nat.zero_le _, rfl, hB⟩
          case round =>
            obtain ⟨j, hj, rfl, hB2⟩ := hrel
            by_cases hji : j < i
            · have hjn : j < n := by omega
              have hjl : j < l.length := by rw [HN.out]; exact hjn
              obtain ⟨x, hx⟩ : ∃ x, l[i] = x := ⟨_, rfl⟩
              obtain ⟨y, hy⟩ : ∃ y, l[j] = y := ⟨_, rfl⟩
              have hlx : l[i]? = some x := by rw [List.getElem?_eq_getElem hil, hx]
              have hly : l[j]? = some y := by rw [List.getElem?_eq_getElem hjl, hy]
              have HVX := hid (HV.out x (hx ▸ List.getElem_mem hil))
              have HVY := hid (HV.out y (hy ▸ List.getElem_mem hjl))
              obtain ⟨q, hq⟩ : ∃ q, cl a1 x y = q := ⟨_, rfl⟩
              have HCL := hid hq
              have HED : Hid (q = true → idx n c i = idx n c j) := by
                intro h
                rw [idx_eq hin hjn]
                refine HLE.out.resp i j hin hjn ?_
                rw [edge_is hil hjl, hx, hy, hq, h]
              obtain ⟨ai, hai⟩ : ∃ z, idx n c i + 1 = z := ⟨_, rfl⟩
              obtain ⟨aj, haj⟩ : ∃ z, idx n c j + 1 = z := ⟨_, rfl⟩
              have HAQ : Hid (q = true → ai = aj) := by intro h; rw [← hai, ← haj, HED.out h]
              have KS : Hid (∀ w' : World, Below w6.heap.size w6 w' → w'.cell? ⟨w5.heap.size, i, none⟩ = some (.int .i64 (ai : Nat)) ∧ w'.cell? ⟨w5.heap.size, j, none⟩ = some (.int .i64 (aj : Nat))) := by
                intro w' hb'
                refine ⟨(hb'.cell (p := ⟨w5.heap.size, i, none⟩) (by simpa using hs6)).trans ?_, (hb'.cell (p := ⟨w5.heap.size, j, none⟩) (by simpa using hs6)).trans ?_⟩
                · rw [HR6.out.cell hin, ← hai]
                · rw [HR6.out.cell hjn, ← haj]
              obtain ⟨t1, c1, f1, u1, b1⟩ := x
              obtain ⟨t2, c2, f2, u2, b2⟩ := y
              have KX := hid (HC.out i _ hlx)
              have KY := hid (HC.out j _ hly)
              have HB2 := hB2.out
              obtain ⟨x0, x1, x2, x3, x4⟩ := KX.out _ HB2
              obtain ⟨y0, y1, y2, y3, y4⟩ := KY.out _ HB2
              obtain ⟨z0, z1⟩ := KS.out _ HB2
              dsimp only at x0 x1 x2 x3 x4 y0 y1 y2 y3 y4
              have i0 : (0 : Int) ≤ (i : Int) := by omega
              have i1 : (i : Int) < (n : Int) := by omega
              have j0 : (0 : Int) ≤ (j : Int) := by omega
              have j1 : (j : Int) < (n : Int) := by omega
              clear hx hy hlx hly hq hai haj HED
              clear x0 x1 x2 x3 x4 y0 y1 y2 y3 y4 z0 z1
              cases q
              · clear HAQ
                go_wp2_with fail
                refine wp_region_held_drew (S := fun w1 => Below w6.heap.size w6 w1) (by kernel_rfl) (bdr HB2) (fun hHeld => ?_)
                refine wpAnyH_take (i := 0) (v := ?vva0) rfl (by kernel_rfl) (by kernel_rfl) (by kernel_rfl) (fun _ _ _ h => h) (Or.inl ⟨by rfl, ?hya0⟩) (by assumption) ?resta0
                case hya0 => (intro w0 hw0; go_simp; try with_reducible rfl)
                try simp only [Act.put, List.setIfInBounds_toArray, List.set_cons_zero, List.set_cons_succ, List.getElem_toArray, List.getElem_cons_zero]
                refine wpAnyH_take (i := 1) (v := ?vva1) rfl (by kernel_rfl) (by kernel_rfl) (by kernel_rfl) (fun _ _ _ h => h) (Or.inl ⟨by rfl, ?hya1⟩) (by assumption) ?resta1
                case hya1 => (intro w0 hw0; go_simp; try with_reducible rfl)
                try simp only [Act.put, List.setIfInBounds_toArray, List.set_cons_zero, List.set_cons_succ, List.getElem_toArray, List.getElem_cons_zero, List.getElem_cons_succ]
                refine wpAnyH_take (i := 2) (v := ?vva2) rfl (by kernel_rfl) (by kernel_rfl) (by kernel_rfl) (fun _ _ _ h => h) (Or.inl ⟨by rfl, ?hya2⟩) (by assumption) ?resta2
                case hya2 => (intro w0 hw0; go_simp; try with_reducible rfl)
                try simp only [Act.put, List.setIfInBounds_toArray, List.set_cons_zero, List.set_cons_succ, List.getElem_toArray, List.getElem_cons_zero, List.getElem_cons_succ]
                refine wpAnyH_take (i := 3) (v := ?vva3) rfl (by kernel_rfl) (by kernel_rfl) (by kernel_rfl) (fun _ _ _ h => h) (Or.inl ⟨by rfl, ?hya3⟩) (by assumption) ?resta3
                case hya3 => (intro w0 hw0; obtain ⟨x0, x1, x2, x3, x4⟩ := KX.out _ hw0; dsimp only at x0 x1 x2 x3 x4; go_simp; try with_reducible rfl)
                try simp only [Act.put, List.setIfInBounds_toArray, List.set_cons_zero, List.set_cons_succ, List.getElem_toArray, List.getElem_cons_zero, List.getElem_cons_succ]
                refine wpAnyH_take (i := 4) (v := ?vva4) rfl (by kernel_rfl) (by kernel_rfl) (by kernel_rfl) (fun _ _ _ h => h) (Or.inl ⟨by rfl, ?hya4⟩) (by assumption) ?resta4
                case hya4 => (intro w0 hw0; go_simp; try with_reducible rfl)
                try simp only [Act.put, List.setIfInBounds_toArray, List.set_cons_zero, List.set_cons_succ, List.getElem_toArray, List.getElem_cons_zero, List.getElem_cons_succ]
                refine wpAnyH_take (i := 5) (v := ?vva5) rfl (by kernel_rfl) (by kernel_rfl) (by kernel_rfl) (fun _ _ _ h => h) (Or.inl ⟨by rfl, ?hya5⟩) (by assumption) ?resta5
                case hya5 => (intro w0 hw0; go_simp; try with_reducible rfl)
                try simp only [Act.put, List.setIfInBounds_toArray, List.set_cons_zero, List.set_cons_succ, List.getElem_toArray, List.getElem_cons_zero, List.getElem_cons_succ]
                refine wpAnyH_take (i := 6) (v := ?vva6) rfl (by kernel_rfl) (by kernel_rfl) (by kernel_rfl) (fun _ _ _ h => h) (Or.inl ⟨by rfl, ?hya6⟩) (by assumption) ?resta6
                case hya6 => (intro w0 hw0; go_simp; try with_reducible rfl)
                try simp only [Act.put, List.setIfInBounds_toArray, List.set_cons_zero, List.set_cons_succ, List.getElem_toArray, List.getElem_cons_zero, List.getElem_cons_succ]
                refine wpAnyH_take (i := 7) (v := ?vva7) rfl (by kernel_rfl) (by kernel_rfl) (by kernel_rfl) (fun _ _ _ h => h) (Or.inl ⟨by rfl, ?hya7⟩) (by assumption) ?resta7
                case hya7 => (intro w0 hw0; obtain ⟨y0, y1, y2, y3, y4⟩ := KY.out _ hw0; dsimp only at y0 y1 y2 y3 y4; go_simp; try with_reducible rfl)
                try simp only [Act.put, List.setIfInBounds_toArray, List.set_cons_zero, List.set_cons_succ, List.getElem_toArray, List.getElem_cons_zero, List.getElem_cons_succ]
                refine wpAnyH_take (i := 8) (v := ?vva8) rfl (by kernel_rfl) (by kernel_rfl) (by kernel_rfl) (fun _ _ _ h => h) (Or.inl ⟨by rfl, ?hya8⟩) (by assumption) ?resta8
                case hya8 => (intro w0 hw0; go_simp; try with_reducible rfl)
                try simp only [Act.put, List.setIfInBounds_toArray, List.set_cons_zero, List.set_cons_succ, List.getElem_toArray, List.getElem_cons_zero, List.getElem_cons_succ]
                refine wpAnyH_ready (rs := [9]) (by kernel_rfl) (by simp) (AllReadyH.cons rfl (fun K hK => ?_) AllReadyH.nil)
                go_simp
                refine (close_at HCL.out HVX.out HVY.out (Nat.le_refl _) (by assumption)).mono ?_; rintro e w7 ⟨rfl, hb7⟩; try (go_wp2_with fail)
                refine hK.out _ _ (by assumption) (fun hHeld => ?_)
                clear hK K
                try simp only [Act.put, List.setIfInBounds_toArray, List.set_cons_zero, List.set_cons_succ, List.getElem_toArray, List.getElem_cons_zero, List.getElem_cons_succ]
                refine wpAnyH_take (i := 10) (v := ?vva10) rfl (by kernel_rfl) (by kernel_rfl) (by kernel_rfl) (fun _ _ _ h => h) (Or.inl ⟨by rfl, ?hya10⟩) (by assumption) ?resta10
                case hya10 => (intro w0 hw0; go_simp; try with_reducible rfl)
                try simp only [Act.put, List.setIfInBounds_toArray, List.set_cons_zero, List.set_cons_succ, List.getElem_toArray, List.getElem_cons_zero, List.getElem_cons_succ]
                refine wpAnyH_take (i := 11) (v := undef) rfl (by kernel_rfl) (by kernel_rfl) (by kernel_rfl) (fun _ _ _ h => h) (Or.inr ⟨by rfl, rfl⟩) (by assumption) ?_
                try simp only [Act.put, List.setIfInBounds_toArray, List.set_cons_zero, List.set_cons_succ, List.getElem_toArray, List.getElem_cons_zero, List.getElem_cons_succ]
                refine wpAnyH_take (i := 12) (v := undef) rfl (by kernel_rfl) (by kernel_rfl) (by kernel_rfl) (fun _ _ _ h => h) (Or.inr ⟨by rfl, rfl⟩) (by assumption) ?_
                try simp only [Act.put, List.setIfInBounds_toArray, List.set_cons_zero, List.set_cons_succ, List.getElem_toArray, List.getElem_cons_zero, List.getElem_cons_succ]
                refine wpAnyH_take (i := 13) (v := undef) rfl (by kernel_rfl) (by kernel_rfl) (by kernel_rfl) (fun _ _ _ h => h) (Or.inr ⟨by rfl, rfl⟩) (by assumption) ?_
                try simp only [Act.put, List.setIfInBounds_toArray, List.set_cons_zero, List.set_cons_succ, List.getElem_toArray, List.getElem_cons_zero, List.getElem_cons_succ]
                refine wpAnyH_take (i := 14) (v := undef) rfl (by kernel_rfl) (by kernel_rfl) (by kernel_rfl) (fun _ _ _ h => h) (Or.inr ⟨by rfl, rfl⟩) (by assumption) ?_
                try simp only [Act.put, List.setIfInBounds_toArray, List.set_cons_zero, List.set_cons_succ, List.getElem_toArray, List.getElem_cons_zero, List.getElem_cons_succ]
                refine wpAnyH_take (i := 15) (v := undef) rfl (by kernel_rfl) (by kernel_rfl) (by kernel_rfl) (fun _ _ _ h => h) (Or.inr ⟨by rfl, rfl⟩) (by assumption) ?_
                try simp only [Act.put, List.setIfInBounds_toArray, List.set_cons_zero, List.set_cons_succ, List.getElem_toArray, List.getElem_cons_zero, List.getElem_cons_succ]
                refine wpAnyH_take (i := 16) (v := undef) rfl (by kernel_rfl) (by kernel_rfl) (by kernel_rfl) (fun _ _ _ h => h) (Or.inr ⟨by rfl, rfl⟩) (by assumption) ?_
                try simp only [Act.put, List.setIfInBounds_toArray, List.set_cons_zero, List.set_cons_succ, List.getElem_toArray, List.getElem_cons_zero, List.getElem_cons_succ]
                refine wpAnyH_take (i := 17) (v := undef) rfl (by kernel_rfl) (by kernel_rfl) (by kernel_rfl) (fun _ _ _ h => h) (Or.inr ⟨by rfl, rfl⟩) (by assumption) ?_
                try simp only [Act.put, List.setIfInBounds_toArray, List.set_cons_zero, List.set_cons_succ, List.getElem_toArray, List.getElem_cons_zero, List.getElem_cons_succ]
                refine wpAnyH_take (i := 18) (v := undef) rfl (by kernel_rfl) (by kernel_rfl) (by kernel_rfl) (fun _ _ _ h => h) (Or.inr ⟨by rfl, rfl⟩) (by assumption) ?_
                try simp only [Act.put, List.setIfInBounds_toArray, List.set_cons_zero, List.set_cons_succ, List.getElem_toArray, List.getElem_cons_zero, List.getElem_cons_succ]
                refine wpAnyH_take (i := 19) (v := undef) rfl (by kernel_rfl) (by kernel_rfl) (by kernel_rfl) (fun _ _ _ h => h) (Or.inr ⟨by rfl, rfl⟩) (by assumption) ?_
                try simp only [Act.put, List.setIfInBounds_toArray, List.set_cons_zero, List.set_cons_succ, List.getElem_toArray, List.getElem_cons_zero, List.getElem_cons_succ]
                refine wpAnyH_take (i := 20) (v := ?vva20) rfl (by kernel_rfl) (by kernel_rfl) (by kernel_rfl) (fun _ _ _ h => h) (Or.inl ⟨by rfl, ?hya20⟩) (by assumption) ?resta20
                case hya20 => (intro w0 hw0; go_simp; try with_reducible rfl)
                try simp only [Act.put, List.setIfInBounds_toArray, List.set_cons_zero, List.set_cons_succ, List.getElem_toArray, List.getElem_cons_zero, List.getElem_cons_succ]
                refine wpAnyH_done (by kernel_rfl) ?_ _
                have HB7 := hid hHeld
                clear hHeld
                go_wp2
                go_roundw
                case rel => exact ⟨j + 1, by omega, by go_num, HB7⟩
                case measure => simp [intOf]; omega
              · obtain rfl := HAQ.out rfl
                clear HAQ
                go_wp2_with fail
                refine wp_region_held_drew (S := fun w1 => Below w6.heap.size w6 w1) (by kernel_rfl) (bdr HB2) (fun hHeld => ?_)
                refine wpAnyH_take (i := 0) (v := ?vvb0) rfl (by kernel_rfl) (by kernel_rfl) (by kernel_rfl) (fun _ _ _ h => h) (Or.inl ⟨by rfl, ?hyb0⟩) (by assumption) ?restb0
                case hyb0 => (intro w0 hw0; go_simp; try with_reducible rfl)
                try simp only [Act.put, List.setIfInBounds_toArray, List.set_cons_zero, List.set_cons_succ, List.getElem_toArray, List.getElem_cons_zero]
                refine wpAnyH_take (i := 1) (v := ?vvb1) rfl (by kernel_rfl) (by kernel_rfl) (by kernel_rfl) (fun _ _ _ h => h) (Or.inl ⟨by rfl, ?hyb1⟩) (by assumption) ?restb1
                case hyb1 => (intro w0 hw0; go_simp; try with_reducible rfl)
                try simp only [Act.put, List.setIfInBounds_toArray, List.set_cons_zero, List.set_cons_succ, List.getElem_toArray, List.getElem_cons_zero, List.getElem_cons_succ]
                refine wpAnyH_take (i := 2) (v := ?vvb2) rfl (by kernel_rfl) (by kernel_rfl) (by kernel_rfl) (fun _ _ _ h => h) (Or.inl ⟨by rfl, ?hyb2⟩) (by assumption) ?restb2
                case hyb2 => (intro w0 hw0; go_simp; try with_reducible rfl)
                try simp only [Act.put, List.setIfInBounds_toArray, List.set_cons_zero, List.set_cons_succ, List.getElem_toArray, List.getElem_cons_zero, List.getElem_cons_succ]
                refine wpAnyH_take (i := 3) (v := ?vvb3) rfl (by kernel_rfl) (by kernel_rfl) (by kernel_rfl) (fun _ _ _ h => h) (Or.inl ⟨by rfl, ?hyb3⟩) (by assumption) ?restb3
                case hyb3 => (intro w0 hw0; obtain ⟨x0, x1, x2, x3, x4⟩ := KX.out _ hw0; dsimp only at x0 x1 x2 x3 x4; go_simp; try with_reducible rfl)
                try simp only [Act.put, List.setIfInBounds_toArray, List.set_cons_zero, List.set_cons_succ, List.getElem_toArray, List.getElem_cons_zero, List.getElem_cons_succ]
                refine wpAnyH_take (i := 4) (v := ?vvb4) rfl (by kernel_rfl) (by kernel_rfl) (by kernel_rfl) (fun _ _ _ h => h) (Or.inl ⟨by rfl, ?hyb4⟩) (by assumption) ?restb4
                case hyb4 => (intro w0 hw0; go_simp; try with_reducible rfl)
                try simp only [Act.put, List.setIfInBounds_toArray, List.set_cons_zero, List.set_cons_succ, List.getElem_toArray, List.getElem_cons_zero, List.getElem_cons_succ]
                refine wpAnyH_take (i := 5) (v := ?vvb5) rfl (by kernel_rfl) (by kernel_rfl) (by kernel_rfl) (fun _ _ _ h => h) (Or.inl ⟨by rfl, ?hyb5⟩) (by assumption) ?restb5
                case hyb5 => (intro w0 hw0; go_simp; try with_reducible rfl)
                try simp only [Act.put, List.setIfInBounds_toArray, List.set_cons_zero, List.set_cons_succ, List.getElem_toArray, List.getElem_cons_zero, List.getElem_cons_succ]
                refine wpAnyH_take (i := 6) (v := ?vvb6) rfl (by kernel_rfl) (by kernel_rfl) (by kernel_rfl) (fun _ _ _ h => h) (Or.inl ⟨by rfl, ?hyb6⟩) (by assumption) ?restb6
                case hyb6 => (intro w0 hw0; go_simp; try with_reducible rfl)
                try simp only [Act.put, List.setIfInBounds_toArray, List.set_cons_zero, List.set_cons_succ, List.getElem_toArray, List.getElem_cons_zero, List.getElem_cons_succ]
                refine wpAnyH_take (i := 7) (v := ?vvb7) rfl (by kernel_rfl) (by kernel_rfl) (by kernel_rfl) (fun _ _ _ h => h) (Or.inl ⟨by rfl, ?hyb7⟩) (by assumption) ?restb7
                case hyb7 => (intro w0 hw0; obtain ⟨y0, y1, y2, y3, y4⟩ := KY.out _ hw0; dsimp only at y0 y1 y2 y3 y4; go_simp; try with_reducible rfl)
                try simp only [Act.put, List.setIfInBounds_toArray, List.set_cons_zero, List.set_cons_succ, List.getElem_toArray, List.getElem_cons_zero, List.getElem_cons_succ]
                refine wpAnyH_take (i := 8) (v := ?vvb8) rfl (by kernel_rfl) (by kernel_rfl) (by kernel_rfl) (fun _ _ _ h => h) (Or.inl ⟨by rfl, ?hyb8⟩) (by assumption) ?restb8
                case hyb8 => (intro w0 hw0; go_simp; try with_reducible rfl)
                try simp only [Act.put, List.setIfInBounds_toArray, List.set_cons_zero, List.set_cons_succ, List.getElem_toArray, List.getElem_cons_zero, List.getElem_cons_succ]
                refine wpAnyH_ready (rs := [9]) (by kernel_rfl) (by simp) (AllReadyH.cons rfl (fun K hK => ?_) AllReadyH.nil)
                go_simp
                refine (close_at HCL.out HVX.out HVY.out (Nat.le_refl _) (by assumption)).mono ?_; rintro e w7 ⟨rfl, hb7⟩; try (go_wp2_with fail)
                refine hK.out _ _ (by assumption) (fun hHeld => ?_)
                clear hK K
                try simp only [Act.put, List.setIfInBounds_toArray, List.set_cons_zero, List.set_cons_succ, List.getElem_toArray, List.getElem_cons_zero, List.getElem_cons_succ]
                refine wpAnyH_take (i := 10) (v := ?vvb10) rfl (by kernel_rfl) (by kernel_rfl) (by kernel_rfl) (fun _ _ _ h => h) (Or.inl ⟨by rfl, ?hyb10⟩) (by assumption) ?restb10
                case hyb10 => (intro w0 hw0; go_simp; try with_reducible rfl)
                try simp only [Act.put, List.setIfInBounds_toArray, List.set_cons_zero, List.set_cons_succ, List.getElem_toArray, List.getElem_cons_zero, List.getElem_cons_succ]
                refine wpAnyH_take (i := 11) (v := ?vvb11) rfl (by kernel_rfl) (by kernel_rfl) (by kernel_rfl) (fun _ _ _ h => h) (Or.inl ⟨by rfl, ?hyb11⟩) (by assumption) ?restb11
                case hyb11 => (intro w0 hw0; go_simp; try with_reducible rfl)
                try simp only [Act.put, List.setIfInBounds_toArray, List.set_cons_zero, List.set_cons_succ, List.getElem_toArray, List.getElem_cons_zero, List.getElem_cons_succ]
                refine wpAnyH_take (i := 12) (v := ?vvb12) rfl (by kernel_rfl) (by kernel_rfl) (by kernel_rfl) (fun _ _ _ h => h) (Or.inl ⟨by rfl, ?hyb12⟩) (by assumption) ?restb12
                case hyb12 => (intro w0 hw0; go_simp; try with_reducible rfl)
                try simp only [Act.put, List.setIfInBounds_toArray, List.set_cons_zero, List.set_cons_succ, List.getElem_toArray, List.getElem_cons_zero, List.getElem_cons_succ]
                refine wpAnyH_take (i := 13) (v := ?vvb13) rfl (by kernel_rfl) (by kernel_rfl) (by kernel_rfl) (fun _ _ _ h => h) (Or.inl ⟨by rfl, ?hyb13⟩) (by assumption) ?restb13
                case hyb13 => (intro w0 hw0; go_simp; try with_reducible rfl)
                try simp only [Act.put, List.setIfInBounds_toArray, List.set_cons_zero, List.set_cons_succ, List.getElem_toArray, List.getElem_cons_zero, List.getElem_cons_succ]
                refine wpAnyH_take (i := 14) (v := ?vvb14) rfl (by kernel_rfl) (by kernel_rfl) (by kernel_rfl) (fun _ _ _ h => h) (Or.inl ⟨by rfl, ?hyb14⟩) (by assumption) ?restb14
                case hyb14 => (intro w0 hw0; obtain ⟨z0, z1⟩ := KS.out _ hw0; go_simp; try with_reducible rfl)
                try simp only [Act.put, List.setIfInBounds_toArray, List.set_cons_zero, List.set_cons_succ, List.getElem_toArray, List.getElem_cons_zero, List.getElem_cons_succ]
                refine wpAnyH_take (i := 15) (v := ?vvb15) rfl (by kernel_rfl) (by kernel_rfl) (by kernel_rfl) (fun _ _ _ h => h) (Or.inl ⟨by rfl, ?hyb15⟩) (by assumption) ?restb15
                case hyb15 => (intro w0 hw0; go_simp; try with_reducible rfl)
                try simp only [Act.put, List.setIfInBounds_toArray, List.set_cons_zero, List.set_cons_succ, List.getElem_toArray, List.getElem_cons_zero, List.getElem_cons_succ]
                refine wpAnyH_take (i := 16) (v := ?vvb16) rfl (by kernel_rfl) (by kernel_rfl) (by kernel_rfl) (fun _ _ _ h => h) (Or.inl ⟨by rfl, ?hyb16⟩) (by assumption) ?restb16
                case hyb16 => (intro w0 hw0; go_simp; try with_reducible rfl)
                try simp only [Act.put, List.setIfInBounds_toArray, List.set_cons_zero, List.set_cons_succ, List.getElem_toArray, List.getElem_cons_zero, List.getElem_cons_succ]
                refine wpAnyH_take (i := 17) (v := ?vvb17) rfl (by kernel_rfl) (by kernel_rfl) (by kernel_rfl) (fun _ _ _ h => h) (Or.inl ⟨by rfl, ?hyb17⟩) (by assumption) ?restb17
                case hyb17 => (intro w0 hw0; go_simp; try with_reducible rfl)
                try simp only [Act.put, List.setIfInBounds_toArray, List.set_cons_zero, List.set_cons_succ, List.getElem_toArray, List.getElem_cons_zero, List.getElem_cons_succ]
                refine wpAnyH_take (i := 18) (v := ?vvb18) rfl (by kernel_rfl) (by kernel_rfl) (by kernel_rfl) (fun _ _ _ h => h) (Or.inl ⟨by rfl, ?hyb18⟩) (by assumption) ?restb18
                case hyb18 => (intro w0 hw0; obtain ⟨z0, z1⟩ := KS.out _ hw0; go_simp; try with_reducible rfl)
                try simp only [Act.put, List.setIfInBounds_toArray, List.set_cons_zero, List.set_cons_succ, List.getElem_toArray, List.getElem_cons_zero, List.getElem_cons_succ]
                refine wpAnyH_take (i := 19) (v := ?vvb19) rfl (by kernel_rfl) (by kernel_rfl) (by kernel_rfl) (fun _ _ _ h => h) (Or.inl ⟨by rfl, ?hyb19⟩) (by assumption) ?restb19
                case hyb19 => (intro w0 hw0; go_simp; try with_reducible rfl)
                try simp only [Act.put, List.setIfInBounds_toArray, List.set_cons_zero, List.set_cons_succ, List.getElem_toArray, List.getElem_cons_zero, List.getElem_cons_succ]
                refine wpAnyH_take (i := 20) (v := ?vvb20) rfl (by kernel_rfl) (by kernel_rfl) (by kernel_rfl) (fun _ _ _ h => h) (Or.inl ⟨by rfl, ?hyb20⟩) (by assumption) ?restb20
                case hyb20 => (intro w0 hw0; go_simp; try with_reducible rfl)
                try simp only [Act.put, List.setIfInBounds_toArray, List.set_cons_zero, List.set_cons_succ, List.getElem_toArray, List.getElem_cons_zero, List.getElem_cons_succ]
                refine wpAnyH_done (by kernel_rfl) ?_ _
                have HB7 := hid hHeld
                clear hHeld
                go_wp2
                go_roundw
                case rel => exact ⟨j + 1, by omega, by go_num, HB7⟩
                case measure => simp [intOf]; omega
            · obtain rfl : j = i := by omega
              go_wp2
              go_roundw
              case rel => exact ⟨j + 1, by omega, by go_num, hB2⟩
              case measure => simp [intOf]; omega
        · obtain rfl : i = n := by omega
          clear HR6
          go_wp2_with fail
          have hmk := run_make_row' (P := Try.prog) 58 4 (.bool false) 1 Try.underlying58 Try.info4 rfl .i64 .i64 i (by omega) (by omega)
          go_loopw [12] (fun p wr => ∃ q : Nat, q ≤ G1 ∧ p = .int .i64 (q : Nat) ∧ Hid (Below w6.heap.size w6 wr)) (fun p _ => G1 - (intOf p).toNat)
          case atStart => exact ⟨0, Nat.zero_le _, rfl, hB⟩
          case round =>
            obtain ⟨p, hp, rfl, hB3⟩ := hrel
            obtain ⟨wa, hwa⟩ : ∃ wa, wa = wr := ⟨_, rfl⟩
            subst hwa
            by_cases hpG : p < G1
            · obtain ⟨g, hg⟩ : ∃ g, (gl i c)[p]? = some g := ⟨_, List.getElem?_eq_getElem (by rw [HG1.out]; exact hpG)⟩
              have hgl := gl_len_le (List.mem_of_getElem? hg)
              obtain ⟨f, hf, -, hg0, hsort, hin⟩ := gl_at hg
              have hfi := (hin f (List.mem_of_getElem? hg0)).1
              obtain ⟨bg, rfl, hbg, hcg⟩ := HH6.out.at_ (by rw [HG1.out]; omega)
              obtain ⟨A1, c1, eg, rg⟩ := hcg p g hg
              obtain ⟨b1, rfl, hb1, hg1⟩ := rg.at_ hgl.1
              have HGC : Hid (∀ w1 : World, Below w6.heap.size w6 w1 → ∀ k y, g[k]? = some y → w1.cell? ⟨b1, k, none⟩ = some (.int .i64 (y : Nat))) := fun w1 hb k y hk => (hb.cell (p := ⟨b1, k, none⟩) (by simpa using hb1)).trans (hg1 k y hk)
              have egr := (hB3.out.cell (p := ⟨bg, p, none⟩) (by simpa using hbg)).trans eg
              have egf := HGC.out _ hB3.out 0 f hg0
              obtain ⟨M, hM⟩ : ∃ M, g.length = M := ⟨_, rfl⟩
              rw [hM] at hgl egr
              have HG := hid hg
              have HM := hid hM
              have HIN := hid hin
              have HST := hid (Bf.start (E := edge a1 l) hg0)
              have hsz := hB3.out.size
              have hbw : b1 < wa.heap.size := by omega
              clear hg hf hg0 hsort hin hcg eg rg hg1 hM
              have hrow := World.rowIs_made (wa.alloc (.cells #[.int .i64 (f : Nat)] 3)) (.bool false) i 4
              rw [show (wa.alloc (.cells #[.int .i64 (f : Nat)] 3)).heap.size = wa.heap.size + 1 from by simp] at hrow
              have ff := World.rowIs.frozen hrow f
              have cf := World.rowIs.cell hrow hfi
              have HBS := hid (BS.start wa i f hfi)
              have f0 : (0 : Int) ≤ (f : Int) := by omega
              have f1 : (f : Int) < (i : Int) := by omega
              clear hrow
              go_wp2_with fail
              go_loopw [14, 16] (fun v mv wx => ∃ (R : List Nat) (m : Nat), m ≤ R.length ∧ mv = .int .i64 (m : Nat) ∧ Hid (Bf (edge a1 l) g R m) ∧ Hid (BS wa.heap.size wa wx i v R)) (fun _ mv _ => M - (intOf mv).toNat)
              case atStart => exact ⟨[f], 0, Nat.zero_le _, rfl, HST, HBS⟩
              case round =>
                obtain ⟨R, m, hm, rfl, hbf, hbs⟩ := hrel
                obtain ⟨wx, hwx⟩ : ∃ wx, wx = wr := ⟨_, rfl⟩
                subst hwx
                obtain ⟨r, hr⟩ : ∃ r, R.length = r := ⟨_, rfl⟩
                have HR := hid hr
                have hrM : r ≤ M := by have := hbf.out.len; rw [HM.out, hr] at this; exact this
                have hr0 : 0 < r := by obtain ⟨f', _, h⟩ := hbf.out.first; rw [← hr]; exact List.length_pos_of_mem h
                obtain ⟨bv, cv, rfl, hbv, -⟩ := hbs.out.reach (by rw [hr]; exact hr0)
                rw [hr] at hm hbs ⊢
                clear hr
                by_cases hmr : m < r
                · obtain ⟨x, hx⟩ : ∃ x, R[m]? = some x := ⟨_, List.getElem?_eq_getElem (by rw [HR.out]; exact hmr)⟩
                  have hxi : x < i := (HIN.out x (hbf.out.sub x (List.mem_of_getElem? hx))).1
                  have hxl : x < l.length := by rw [HN.out]; exact hxi
                  obtain ⟨ax, hax⟩ : ∃ z, l[x] = z := ⟨_, rfl⟩
                  have hlx : l[x]? = some ax := by rw [List.getElem?_eq_getElem hxl, hax]
                  have HVX := hid (HV.out ax (hax ▸ List.getElem_mem hxl))
                  have HX := hid hx
                  have HAX := hid hax
                  have HLX := hid hlx
                  clear hx hax hlx
                  go_wp2_with fail
                  go_loopw [14, 17] (fun v kv wy => ∃ (R2 : List Nat) (k : Nat), k ≤ M ∧ kv = .int .i64 (k : Nat) ∧ Hid (R2[m]? = some x) ∧ Hid (∀ y ∈ g.take k, edge a1 l x y = true → y ∈ R2) ∧ Hid (Bf (edge a1 l) g R2 m) ∧ Hid (BS wa.heap.size wa wy i v R2)) (fun _ kv _ => M - (intOf kv).toNat)
                  case atStart => exact ⟨R, 0, Nat.zero_le _, rfl, HX, by simp [Hid], hbf, hbs⟩
                  case round =>
                    obtain ⟨R2, k, hk, rfl, HX2, HD2, HBF2, HBS2⟩ := hrel
                    obtain ⟨wy, hwy⟩ : ∃ wy, wy = wr := ⟨_, rfl⟩
                    subst hwy
                    by_cases hkM : k < M
                    · obtain ⟨y, hy⟩ : ∃ y, g[k]? = some y := ⟨_, List.getElem?_eq_getElem (by rw [HM.out]; exact hkM)⟩
                      have hyg := List.mem_of_getElem? hy
                      have hyi : y < i := (HIN.out y hyg).1
                      have hyl : y < l.length := by rw [HN.out]; exact hyi
                      obtain ⟨ay, hay⟩ : ∃ z, l[y] = z := ⟨_, rfl⟩
                      have hly : l[y]? = some ay := by rw [List.getElem?_eq_getElem hyl, hay]
                      have HVY := hid (HV.out ay (hay ▸ List.getElem_mem hyl))
                      have htk : g.take (k + 1) = g.take k ++ [y] := by
                        obtain ⟨a3, a4⟩ := List.getElem?_eq_some_iff.1 hy
                        rw [List.take_succ_eq_append_getElem a3, a4]
                      have hm2 : m < R2.length := (List.getElem?_eq_some_iff.1 HX2.out).1
                      obtain ⟨bv2, cv2, rfl, hbv2, hcv2⟩ := HBS2.out.reach (by omega)
                      obtain ⟨r2, hr2⟩ : ∃ r2, R2.length = r2 := ⟨_, rfl⟩
                      have HR2 := hid hr2
                      have hr2M : r2 ≤ M := by have := HBF2.out.len; rw [HM.out, hr2] at this; exact this
                      have hsz2 := HBS2.out.below.size
                      have hb1y : b1 < wy.heap.size := by omega
                      have KG : Hid (∀ w1 : World, Below wy.heap.size wy w1 → w1.cell? ⟨b1, k, none⟩ = some (.int .i64 (y : Nat))) := fun w1 hb => (hb.cell (p := ⟨b1, k, none⟩) (by simpa using hb1y)).trans ((HBS2.out.below.cell (p := ⟨b1, k, none⟩) (by simpa using hbw)).trans (HGC.out _ hB3.out k y hy))
                      have KR : Hid (∀ w1 : World, Below wy.heap.size wy w1 → w1.cell? ⟨bv2, m, none⟩ = some (.int .i64 (x : Nat))) := fun w1 hb => (hb.cell (p := ⟨bv2, m, none⟩) (by simpa using hbv2)).trans (hcv2 m x HX2.out)
                      have hol := World.rowIs.lt HBS2.out.inn
                      have hAy : Below w6.heap.size w6 wy := hB3.out.trans (HBS2.out.below.mono (by omega))
                      rw [hr2] at hm2 HBS2 ⊢
                      have HTK := hid htk
                      have HYG := hid hyg
                      have y0 : (0 : Int) ≤ (y : Int) := by omega
                      have y1 : (y : Int) < (i : Int) := by omega
                      have x0 : (0 : Int) ≤ (x : Int) := by omega
                      have x1 : (x : Int) < (i : Int) := by omega
                      have k0 : (0 : Int) ≤ (k : Int) := by omega
                      have k1 : (k : Int) < (M : Int) := by omega
                      have m0 : (0 : Int) ≤ (m : Int) := by omega
                      have m1 : (m : Int) < (r2 : Int) := by omega
                      by_cases hyR : y ∈ R2
                      · have KI : Hid (∀ w1 : World, Below wy.heap.size wy w1 → w1.cell? ⟨wa.heap.size + 1, y, none⟩ = some (.bool true)) := fun w1 hb => (hb.cell (p := ⟨wa.heap.size + 1, y, none⟩) (by simpa using hol)).trans ((HBS2.out.inn.cell hyi).trans (by simp [hyR]))
                        have HD3 : Hid (∀ z ∈ g.take (k + 1), edge a1 l x z = true → z ∈ R2) := by
                          intro z hz he
                          rw [HTK.out, List.mem_append, List.mem_singleton] at hz
                          rcases hz with hz | rfl
                          · exact HD2.out z hz he
                          · exact hyR
                        clear hy hay hly htk hr2 hcv2 hyg hyR HD2
                        go_wp2_with fail
                        refine wp_region_held_drew (S := fun w1 => Below wy.heap.size wy w1) (by kernel_rfl) (bdr (Below.refl _ _)) (fun hHeld => ?_)
                        refine wpAnyH_take (i := 0) (v := ?vvh0) rfl (by kernel_rfl) (by kernel_rfl) (by kernel_rfl) (fun _ _ _ h => h) (Or.inl ⟨by rfl, ?hyh0⟩) (by assumption) ?resth0
                        case hyh0 => (intro w0 hw0; go_simp; try with_reducible rfl)
                        try simp only [Act.put, List.setIfInBounds_toArray, List.set_cons_zero, List.set_cons_succ, List.getElem_toArray, List.getElem_cons_zero]
                        refine wpAnyH_take (i := 1) (v := ?vvh1) rfl (by kernel_rfl) (by kernel_rfl) (by kernel_rfl) (fun _ _ _ h => h) (Or.inl ⟨by rfl, ?hyh1⟩) (by assumption) ?resth1
                        case hyh1 => (intro w0 hw0; go_simp; try with_reducible rfl)
                        try simp only [Act.put, List.setIfInBounds_toArray, List.set_cons_zero, List.set_cons_succ, List.getElem_toArray, List.getElem_cons_zero, List.getElem_cons_succ]
                        refine wpAnyH_take (i := 2) (v := ?vvh2) rfl (by kernel_rfl) (by kernel_rfl) (by kernel_rfl) (fun _ _ _ h => h) (Or.inl ⟨by rfl, ?hyh2⟩) (by assumption) ?resth2
                        case hyh2 => (intro w0 hw0; go_simp; try with_reducible rfl)
                        try simp only [Act.put, List.setIfInBounds_toArray, List.set_cons_zero, List.set_cons_succ, List.getElem_toArray, List.getElem_cons_zero, List.getElem_cons_succ]
                        refine wpAnyH_take (i := 3) (v := ?vvh3) rfl (by kernel_rfl) (by kernel_rfl) (by kernel_rfl) (fun _ _ _ h => h) (Or.inl ⟨by rfl, ?hyh3⟩) (by assumption) ?resth3
                        case hyh3 => (intro w0 hw0; go_simp; try with_reducible rfl)
                        try simp only [Act.put, List.setIfInBounds_toArray, List.set_cons_zero, List.set_cons_succ, List.getElem_toArray, List.getElem_cons_zero, List.getElem_cons_succ]
                        refine wpAnyH_take (i := 4) (v := ?vvh4) rfl (by kernel_rfl) (by kernel_rfl) (by kernel_rfl) (fun _ _ _ h => h) (Or.inl ⟨by rfl, ?hyh4⟩) (by assumption) ?resth4
                        case hyh4 => (intro w0 hw0; have z0 := KG.out _ hw0; go_simp; try with_reducible rfl)
                        try simp only [Act.put, List.setIfInBounds_toArray, List.set_cons_zero, List.set_cons_succ, List.getElem_toArray, List.getElem_cons_zero, List.getElem_cons_succ]
                        refine wpAnyH_take (i := 5) (v := ?vvh5) rfl (by kernel_rfl) (by kernel_rfl) (by kernel_rfl) (fun _ _ _ h => h) (Or.inl ⟨by rfl, ?hyh5⟩) (by assumption) ?resth5
                        case hyh5 => (intro w0 hw0; go_simp; try with_reducible rfl)
                        try simp only [Act.put, List.setIfInBounds_toArray, List.set_cons_zero, List.set_cons_succ, List.getElem_toArray, List.getElem_cons_zero, List.getElem_cons_succ]
                        refine wpAnyH_take (i := 6) (v := ?vvh6) rfl (by kernel_rfl) (by kernel_rfl) (by kernel_rfl) (fun _ _ _ h => h) (Or.inl ⟨by rfl, ?hyh6⟩) (by assumption) ?resth6
                        case hyh6 => (intro w0 hw0; have z1 := KI.out _ hw0; go_simp; try with_reducible rfl)
                        try simp only [Act.put, List.setIfInBounds_toArray, List.set_cons_zero, List.set_cons_succ, List.getElem_toArray, List.getElem_cons_zero, List.getElem_cons_succ]
                        refine wpAnyH_take (i := 7) (v := ?vvh7) rfl (by kernel_rfl) (by kernel_rfl) (by kernel_rfl) (fun _ _ _ h => h) (Or.inl ⟨by rfl, ?hyh7⟩) (by assumption) ?resth7
                        case hyh7 => (intro w0 hw0; go_simp; try with_reducible rfl)
                        try simp only [Act.put, List.setIfInBounds_toArray, List.set_cons_zero, List.set_cons_succ, List.getElem_toArray, List.getElem_cons_zero, List.getElem_cons_succ]
                        refine wpAnyH_take (i := 8) (v := ?vvh8) rfl (by kernel_rfl) (by kernel_rfl) (by kernel_rfl) (fun _ _ _ h => h) (Or.inl ⟨by rfl, ?hyh8⟩) (by assumption) ?resth8
                        case hyh8 => (intro w0 hw0; go_simp; try with_reducible rfl)
                        try simp only [Act.put, List.setIfInBounds_toArray, List.set_cons_zero, List.set_cons_succ, List.getElem_toArray, List.getElem_cons_zero, List.getElem_cons_succ]
                        refine wpAnyH_take (i := 9) (v := undef) rfl (by kernel_rfl) (by kernel_rfl) (by kernel_rfl) (fun _ _ _ h => h) (Or.inr ⟨by rfl, rfl⟩) (by assumption) ?_
                        try simp only [Act.put, List.setIfInBounds_toArray, List.set_cons_zero, List.set_cons_succ, List.getElem_toArray, List.getElem_cons_zero, List.getElem_cons_succ]
                        refine wpAnyH_take (i := 10) (v := undef) rfl (by kernel_rfl) (by kernel_rfl) (by kernel_rfl) (fun _ _ _ h => h) (Or.inr ⟨by rfl, rfl⟩) (by assumption) ?_
                        try simp only [Act.put, List.setIfInBounds_toArray, List.set_cons_zero, List.set_cons_succ, List.getElem_toArray, List.getElem_cons_zero, List.getElem_cons_succ]
                        refine wpAnyH_take (i := 11) (v := undef) rfl (by kernel_rfl) (by kernel_rfl) (by kernel_rfl) (fun _ _ _ h => h) (Or.inr ⟨by rfl, rfl⟩) (by assumption) ?_
                        try simp only [Act.put, List.setIfInBounds_toArray, List.set_cons_zero, List.set_cons_succ, List.getElem_toArray, List.getElem_cons_zero, List.getElem_cons_succ]
                        refine wpAnyH_take (i := 12) (v := undef) rfl (by kernel_rfl) (by kernel_rfl) (by kernel_rfl) (fun _ _ _ h => h) (Or.inr ⟨by rfl, rfl⟩) (by assumption) ?_
                        try simp only [Act.put, List.setIfInBounds_toArray, List.set_cons_zero, List.set_cons_succ, List.getElem_toArray, List.getElem_cons_zero, List.getElem_cons_succ]
                        refine wpAnyH_take (i := 13) (v := undef) rfl (by kernel_rfl) (by kernel_rfl) (by kernel_rfl) (fun _ _ _ h => h) (Or.inr ⟨by rfl, rfl⟩) (by assumption) ?_
                        try simp only [Act.put, List.setIfInBounds_toArray, List.set_cons_zero, List.set_cons_succ, List.getElem_toArray, List.getElem_cons_zero, List.getElem_cons_succ]
                        refine wpAnyH_take (i := 14) (v := undef) rfl (by kernel_rfl) (by kernel_rfl) (by kernel_rfl) (fun _ _ _ h => h) (Or.inr ⟨by rfl, rfl⟩) (by assumption) ?_
                        try simp only [Act.put, List.setIfInBounds_toArray, List.set_cons_zero, List.set_cons_succ, List.getElem_toArray, List.getElem_cons_zero, List.getElem_cons_succ]
                        refine wpAnyH_take (i := 15) (v := undef) rfl (by kernel_rfl) (by kernel_rfl) (by kernel_rfl) (fun _ _ _ h => h) (Or.inr ⟨by rfl, rfl⟩) (by assumption) ?_
                        try simp only [Act.put, List.setIfInBounds_toArray, List.set_cons_zero, List.set_cons_succ, List.getElem_toArray, List.getElem_cons_zero, List.getElem_cons_succ]
                        refine wpAnyH_take (i := 16) (v := undef) rfl (by kernel_rfl) (by kernel_rfl) (by kernel_rfl) (fun _ _ _ h => h) (Or.inr ⟨by rfl, rfl⟩) (by assumption) ?_
                        try simp only [Act.put, List.setIfInBounds_toArray, List.set_cons_zero, List.set_cons_succ, List.getElem_toArray, List.getElem_cons_zero, List.getElem_cons_succ]
                        refine wpAnyH_take (i := 17) (v := undef) rfl (by kernel_rfl) (by kernel_rfl) (by kernel_rfl) (fun _ _ _ h => h) (Or.inr ⟨by rfl, rfl⟩) (by assumption) ?_
                        try simp only [Act.put, List.setIfInBounds_toArray, List.set_cons_zero, List.set_cons_succ, List.getElem_toArray, List.getElem_cons_zero, List.getElem_cons_succ]
                        refine wpAnyH_take (i := 18) (v := undef) rfl (by kernel_rfl) (by kernel_rfl) (by kernel_rfl) (fun _ _ _ h => h) (Or.inr ⟨by rfl, rfl⟩) (by assumption) ?_
                        try simp only [Act.put, List.setIfInBounds_toArray, List.set_cons_zero, List.set_cons_succ, List.getElem_toArray, List.getElem_cons_zero, List.getElem_cons_succ]
                        refine wpAnyH_take (i := 19) (v := undef) rfl (by kernel_rfl) (by kernel_rfl) (by kernel_rfl) (fun _ _ _ h => h) (Or.inr ⟨by rfl, rfl⟩) (by assumption) ?_
                        try simp only [Act.put, List.setIfInBounds_toArray, List.set_cons_zero, List.set_cons_succ, List.getElem_toArray, List.getElem_cons_zero, List.getElem_cons_succ]
                        refine wpAnyH_take (i := 20) (v := undef) rfl (by kernel_rfl) (by kernel_rfl) (by kernel_rfl) (fun _ _ _ h => h) (Or.inr ⟨by rfl, rfl⟩) (by assumption) ?_
                        try simp only [Act.put, List.setIfInBounds_toArray, List.set_cons_zero, List.set_cons_succ, List.getElem_toArray, List.getElem_cons_zero, List.getElem_cons_succ]
                        refine wpAnyH_take (i := 21) (v := undef) rfl (by kernel_rfl) (by kernel_rfl) (by kernel_rfl) (fun _ _ _ h => h) (Or.inr ⟨by rfl, rfl⟩) (by assumption) ?_
                        try simp only [Act.put, List.setIfInBounds_toArray, List.set_cons_zero, List.set_cons_succ, List.getElem_toArray, List.getElem_cons_zero, List.getElem_cons_succ]
                        refine wpAnyH_take (i := 22) (v := undef) rfl (by kernel_rfl) (by kernel_rfl) (by kernel_rfl) (fun _ _ _ h => h) (Or.inr ⟨by rfl, rfl⟩) (by assumption) ?_
                        try simp only [Act.put, List.setIfInBounds_toArray, List.set_cons_zero, List.set_cons_succ, List.getElem_toArray, List.getElem_cons_zero, List.getElem_cons_succ]
                        refine wpAnyH_take (i := 23) (v := undef) rfl (by kernel_rfl) (by kernel_rfl) (by kernel_rfl) (fun _ _ _ h => h) (Or.inr ⟨by rfl, rfl⟩) (by assumption) ?_
                        try simp only [Act.put, List.setIfInBounds_toArray, List.set_cons_zero, List.set_cons_succ, List.getElem_toArray, List.getElem_cons_zero, List.getElem_cons_succ]
                        refine wpAnyH_take (i := 24) (v := undef) rfl (by kernel_rfl) (by kernel_rfl) (by kernel_rfl) (fun _ _ _ h => h) (Or.inr ⟨by rfl, rfl⟩) (by assumption) ?_
                        try simp only [Act.put, List.setIfInBounds_toArray, List.set_cons_zero, List.set_cons_succ, List.getElem_toArray, List.getElem_cons_zero, List.getElem_cons_succ]
                        refine wpAnyH_take (i := 25) (v := ?vvh25) rfl (by kernel_rfl) (by kernel_rfl) (by kernel_rfl) (fun _ _ _ h => h) (Or.inl ⟨by rfl, ?hyh25⟩) (by assumption) ?resth25
                        case hyh25 => (intro w0 hw0; go_simp; try with_reducible rfl)
                        try simp only [Act.put, List.setIfInBounds_toArray, List.set_cons_zero, List.set_cons_succ, List.getElem_toArray, List.getElem_cons_zero, List.getElem_cons_succ]
                        refine wpAnyH_done (by kernel_rfl) ?_ _
                        have HS7 := hid (HBS2.out.call hHeld)
                        clear hHeld
                        go_wp2
                        go_roundw
                        case rel => exact ⟨R2, k + 1, by omega, by go_num, HX2, HD3, HBF2, HS7⟩
                        case measure => simp [intOf]; omega
                      · obtain ⟨q, hq⟩ : ∃ q, cl a1 ax ay = q := ⟨_, rfl⟩
                        have HCL := hid hq
                        have HED : Hid (edge a1 l x y = q) := by unfold Hid; rw [edge_is hxl hyl, HAX.out, hay, hq]
                        have KI : Hid (∀ w1 : World, Below wy.heap.size wy w1 → w1.cell? ⟨wa.heap.size + 1, y, none⟩ = some (.bool false)) := fun w1 hb => (hb.cell (p := ⟨wa.heap.size + 1, y, none⟩) (by simpa using hol)).trans ((HBS2.out.inn.cell hyi).trans (by simp [hyR]))
                        obtain ⟨bA, oA, rfl, hbA, hcA⟩ := rowA_cells HA6.out (by omega)
                        have KX : Hid (∀ w1 : World, Below wy.heap.size wy w1 → AlAt w1 bA (oA + x * 5) ax) := fun w1 hb => hcA x ax HLX.out w1 (hAy.trans (hb.mono hAy.size))
                        have KY : Hid (∀ w1 : World, Below wy.heap.size wy w1 → AlAt w1 bA (oA + y * 5) ay) := fun w1 hb => hcA y ay hly w1 (hAy.trans (hb.mono hAy.size))
                        have HNR := hid hyR
                        obtain ⟨t1, e1, f3, v1, s1⟩ := ax
                        obtain ⟨t2, e2, f4, v2, s2⟩ := ay
                        clear hy hay hly htk hr2 hcv2 hyg hyR hq hcA
                        cases q
                        · have HD3 : Hid (∀ z ∈ g.take (k + 1), edge a1 l x z = true → z ∈ R2) := by
                            intro z hz he
                            rw [HTK.out, List.mem_append, List.mem_singleton] at hz
                            rcases hz with hz | rfl
                            · exact HD2.out z hz he
                            · rw [HED.out] at he; cases he
                          clear HD2
                          go_wp2_with fail
                          refine wp_region_held_drew (S := fun w1 => Below wy.heap.size wy w1) (by kernel_rfl) (bdr (Below.refl _ _)) (fun hHeld => ?_)
                          refine wpAnyH_take (i := 0) (v := ?vvf0) rfl (by kernel_rfl) (by kernel_rfl) (by kernel_rfl) (fun _ _ _ h => h) (Or.inl ⟨by rfl, ?hyf0⟩) (by assumption) ?restf0
                          case hyf0 => (intro w0 hw0; go_simp; try with_reducible rfl)
                          try simp only [Act.put, List.setIfInBounds_toArray, List.set_cons_zero, List.set_cons_succ, List.getElem_toArray, List.getElem_cons_zero]
                          refine wpAnyH_take (i := 1) (v := ?vvf1) rfl (by kernel_rfl) (by kernel_rfl) (by kernel_rfl) (fun _ _ _ h => h) (Or.inl ⟨by rfl, ?hyf1⟩) (by assumption) ?restf1
                          case hyf1 => (intro w0 hw0; go_simp; try with_reducible rfl)
                          try simp only [Act.put, List.setIfInBounds_toArray, List.set_cons_zero, List.set_cons_succ, List.getElem_toArray, List.getElem_cons_zero, List.getElem_cons_succ]
                          refine wpAnyH_take (i := 2) (v := ?vvf2) rfl (by kernel_rfl) (by kernel_rfl) (by kernel_rfl) (fun _ _ _ h => h) (Or.inl ⟨by rfl, ?hyf2⟩) (by assumption) ?restf2
                          case hyf2 => (intro w0 hw0; go_simp; try with_reducible rfl)
                          try simp only [Act.put, List.setIfInBounds_toArray, List.set_cons_zero, List.set_cons_succ, List.getElem_toArray, List.getElem_cons_zero, List.getElem_cons_succ]
                          refine wpAnyH_take (i := 3) (v := ?vvf3) rfl (by kernel_rfl) (by kernel_rfl) (by kernel_rfl) (fun _ _ _ h => h) (Or.inl ⟨by rfl, ?hyf3⟩) (by assumption) ?restf3
                          case hyf3 => (intro w0 hw0; go_simp; try with_reducible rfl)
                          try simp only [Act.put, List.setIfInBounds_toArray, List.set_cons_zero, List.set_cons_succ, List.getElem_toArray, List.getElem_cons_zero, List.getElem_cons_succ]
                          refine wpAnyH_take (i := 4) (v := ?vvf4) rfl (by kernel_rfl) (by kernel_rfl) (by kernel_rfl) (fun _ _ _ h => h) (Or.inl ⟨by rfl, ?hyf4⟩) (by assumption) ?restf4
                          case hyf4 => (intro w0 hw0; have z0 := KG.out _ hw0; go_simp; try with_reducible rfl)
                          try simp only [Act.put, List.setIfInBounds_toArray, List.set_cons_zero, List.set_cons_succ, List.getElem_toArray, List.getElem_cons_zero, List.getElem_cons_succ]
                          refine wpAnyH_take (i := 5) (v := ?vvf5) rfl (by kernel_rfl) (by kernel_rfl) (by kernel_rfl) (fun _ _ _ h => h) (Or.inl ⟨by rfl, ?hyf5⟩) (by assumption) ?restf5
                          case hyf5 => (intro w0 hw0; go_simp; try with_reducible rfl)
                          try simp only [Act.put, List.setIfInBounds_toArray, List.set_cons_zero, List.set_cons_succ, List.getElem_toArray, List.getElem_cons_zero, List.getElem_cons_succ]
                          refine wpAnyH_take (i := 6) (v := ?vvf6) rfl (by kernel_rfl) (by kernel_rfl) (by kernel_rfl) (fun _ _ _ h => h) (Or.inl ⟨by rfl, ?hyf6⟩) (by assumption) ?restf6
                          case hyf6 => (intro w0 hw0; have z1 := KI.out _ hw0; go_simp; try with_reducible rfl)
                          try simp only [Act.put, List.setIfInBounds_toArray, List.set_cons_zero, List.set_cons_succ, List.getElem_toArray, List.getElem_cons_zero, List.getElem_cons_succ]
                          refine wpAnyH_take (i := 7) (v := ?vvf7) rfl (by kernel_rfl) (by kernel_rfl) (by kernel_rfl) (fun _ _ _ h => h) (Or.inl ⟨by rfl, ?hyf7⟩) (by assumption) ?restf7
                          case hyf7 => (intro w0 hw0; go_simp; try with_reducible rfl)
                          try simp only [Act.put, List.setIfInBounds_toArray, List.set_cons_zero, List.set_cons_succ, List.getElem_toArray, List.getElem_cons_zero, List.getElem_cons_succ]
                          refine wpAnyH_take (i := 8) (v := ?vvf8) rfl (by kernel_rfl) (by kernel_rfl) (by kernel_rfl) (fun _ _ _ h => h) (Or.inl ⟨by rfl, ?hyf8⟩) (by assumption) ?restf8
                          case hyf8 => (intro w0 hw0; go_simp; try with_reducible rfl)
                          try simp only [Act.put, List.setIfInBounds_toArray, List.set_cons_zero, List.set_cons_succ, List.getElem_toArray, List.getElem_cons_zero, List.getElem_cons_succ]
                          refine wpAnyH_take (i := 9) (v := ?vvf9) rfl (by kernel_rfl) (by kernel_rfl) (by kernel_rfl) (fun _ _ _ h => h) (Or.inl ⟨by rfl, ?hyf9⟩) (by assumption) ?restf9
                          case hyf9 => (intro w0 hw0; go_simp; try with_reducible rfl)
                          try simp only [Act.put, List.setIfInBounds_toArray, List.set_cons_zero, List.set_cons_succ, List.getElem_toArray, List.getElem_cons_zero, List.getElem_cons_succ]
                          refine wpAnyH_take (i := 10) (v := ?vvf10) rfl (by kernel_rfl) (by kernel_rfl) (by kernel_rfl) (fun _ _ _ h => h) (Or.inl ⟨by rfl, ?hyf10⟩) (by assumption) ?restf10
                          case hyf10 => (intro w0 hw0; go_simp; try with_reducible rfl)
                          try simp only [Act.put, List.setIfInBounds_toArray, List.set_cons_zero, List.set_cons_succ, List.getElem_toArray, List.getElem_cons_zero, List.getElem_cons_succ]
                          refine wpAnyH_take (i := 11) (v := ?vvf11) rfl (by kernel_rfl) (by kernel_rfl) (by kernel_rfl) (fun _ _ _ h => h) (Or.inl ⟨by rfl, ?hyf11⟩) (by assumption) ?restf11
                          case hyf11 => (intro w0 hw0; go_simp; try with_reducible rfl)
                          try simp only [Act.put, List.setIfInBounds_toArray, List.set_cons_zero, List.set_cons_succ, List.getElem_toArray, List.getElem_cons_zero, List.getElem_cons_succ]
                          refine wpAnyH_take (i := 12) (v := ?vvf12) rfl (by kernel_rfl) (by kernel_rfl) (by kernel_rfl) (fun _ _ _ h => h) (Or.inl ⟨by rfl, ?hyf12⟩) (by assumption) ?restf12
                          case hyf12 => (intro w0 hw0; go_simp; try with_reducible rfl)
                          try simp only [Act.put, List.setIfInBounds_toArray, List.set_cons_zero, List.set_cons_succ, List.getElem_toArray, List.getElem_cons_zero, List.getElem_cons_succ]
                          refine wpAnyH_take (i := 13) (v := ?vvf13) rfl (by kernel_rfl) (by kernel_rfl) (by kernel_rfl) (fun _ _ _ h => h) (Or.inl ⟨by rfl, ?hyf13⟩) (by assumption) ?restf13
                          case hyf13 => (intro w0 hw0; have z2 := KR.out _ hw0; go_simp; try with_reducible rfl)
                          try simp only [Act.put, List.setIfInBounds_toArray, List.set_cons_zero, List.set_cons_succ, List.getElem_toArray, List.getElem_cons_zero, List.getElem_cons_succ]
                          refine wpAnyH_take (i := 14) (v := ?vvf14) rfl (by kernel_rfl) (by kernel_rfl) (by kernel_rfl) (fun _ _ _ h => h) (Or.inl ⟨by rfl, ?hyf14⟩) (by assumption) ?restf14
                          case hyf14 => (intro w0 hw0; go_simp; try with_reducible rfl)
                          try simp only [Act.put, List.setIfInBounds_toArray, List.set_cons_zero, List.set_cons_succ, List.getElem_toArray, List.getElem_cons_zero, List.getElem_cons_succ]
                          refine wpAnyH_take (i := 15) (v := ?vvf15) rfl (by kernel_rfl) (by kernel_rfl) (by kernel_rfl) (fun _ _ _ h => h) (Or.inl ⟨by rfl, ?hyf15⟩) (by assumption) ?restf15
                          case hyf15 => (intro w0 hw0; obtain ⟨x0, x1, x2, x3, x4⟩ := KX.out _ hw0; dsimp only at x0 x1 x2 x3 x4; go_simp; try with_reducible rfl)
                          try simp only [Act.put, List.setIfInBounds_toArray, List.set_cons_zero, List.set_cons_succ, List.getElem_toArray, List.getElem_cons_zero, List.getElem_cons_succ]
                          refine wpAnyH_take (i := 16) (v := ?vvf16) rfl (by kernel_rfl) (by kernel_rfl) (by kernel_rfl) (fun _ _ _ h => h) (Or.inl ⟨by rfl, ?hyf16⟩) (by assumption) ?restf16
                          case hyf16 => (intro w0 hw0; go_simp; try with_reducible rfl)
                          try simp only [Act.put, List.setIfInBounds_toArray, List.set_cons_zero, List.set_cons_succ, List.getElem_toArray, List.getElem_cons_zero, List.getElem_cons_succ]
                          refine wpAnyH_take (i := 17) (v := ?vvf17) rfl (by kernel_rfl) (by kernel_rfl) (by kernel_rfl) (fun _ _ _ h => h) (Or.inl ⟨by rfl, ?hyf17⟩) (by assumption) ?restf17
                          case hyf17 => (intro w0 hw0; go_simp; try with_reducible rfl)
                          try simp only [Act.put, List.setIfInBounds_toArray, List.set_cons_zero, List.set_cons_succ, List.getElem_toArray, List.getElem_cons_zero, List.getElem_cons_succ]
                          refine wpAnyH_take (i := 18) (v := ?vvf18) rfl (by kernel_rfl) (by kernel_rfl) (by kernel_rfl) (fun _ _ _ h => h) (Or.inl ⟨by rfl, ?hyf18⟩) (by assumption) ?restf18
                          case hyf18 => (intro w0 hw0; go_simp; try with_reducible rfl)
                          try simp only [Act.put, List.setIfInBounds_toArray, List.set_cons_zero, List.set_cons_succ, List.getElem_toArray, List.getElem_cons_zero, List.getElem_cons_succ]
                          refine wpAnyH_take (i := 19) (v := ?vvf19) rfl (by kernel_rfl) (by kernel_rfl) (by kernel_rfl) (fun _ _ _ h => h) (Or.inl ⟨by rfl, ?hyf19⟩) (by assumption) ?restf19
                          case hyf19 => (intro w0 hw0; go_simp; try with_reducible rfl)
                          try simp only [Act.put, List.setIfInBounds_toArray, List.set_cons_zero, List.set_cons_succ, List.getElem_toArray, List.getElem_cons_zero, List.getElem_cons_succ]
                          refine wpAnyH_take (i := 20) (v := ?vvf20) rfl (by kernel_rfl) (by kernel_rfl) (by kernel_rfl) (fun _ _ _ h => h) (Or.inl ⟨by rfl, ?hyf20⟩) (by assumption) ?restf20
                          case hyf20 => (intro w0 hw0; have z0 := KG.out _ hw0; go_simp; try with_reducible rfl)
                          try simp only [Act.put, List.setIfInBounds_toArray, List.set_cons_zero, List.set_cons_succ, List.getElem_toArray, List.getElem_cons_zero, List.getElem_cons_succ]
                          refine wpAnyH_take (i := 21) (v := ?vvf21) rfl (by kernel_rfl) (by kernel_rfl) (by kernel_rfl) (fun _ _ _ h => h) (Or.inl ⟨by rfl, ?hyf21⟩) (by assumption) ?restf21
                          case hyf21 => (intro w0 hw0; go_simp; try with_reducible rfl)
                          try simp only [Act.put, List.setIfInBounds_toArray, List.set_cons_zero, List.set_cons_succ, List.getElem_toArray, List.getElem_cons_zero, List.getElem_cons_succ]
                          refine wpAnyH_take (i := 22) (v := ?vvf22) rfl (by kernel_rfl) (by kernel_rfl) (by kernel_rfl) (fun _ _ _ h => h) (Or.inl ⟨by rfl, ?hyf22⟩) (by assumption) ?restf22
                          case hyf22 => (intro w0 hw0; obtain ⟨y0, y1, y2, y3, y4⟩ := KY.out _ hw0; dsimp only at y0 y1 y2 y3 y4; go_simp; try with_reducible rfl)
                          try simp only [Act.put, List.setIfInBounds_toArray, List.set_cons_zero, List.set_cons_succ, List.getElem_toArray, List.getElem_cons_zero, List.getElem_cons_succ]
                          refine wpAnyH_take (i := 23) (v := ?vvf23) rfl (by kernel_rfl) (by kernel_rfl) (by kernel_rfl) (fun _ _ _ h => h) (Or.inl ⟨by rfl, ?hyf23⟩) (by assumption) ?restf23
                          case hyf23 => (intro w0 hw0; go_simp; try with_reducible rfl)
                          try simp only [Act.put, List.setIfInBounds_toArray, List.set_cons_zero, List.set_cons_succ, List.getElem_toArray, List.getElem_cons_zero, List.getElem_cons_succ]
                          refine wpAnyH_ready (rs := [24]) (by kernel_rfl) (by simp) (AllReadyH.cons rfl (fun K hK => ?_) AllReadyH.nil)
                          go_simp
                          refine (close_at HCL.out HVX.out HVY.out (Nat.le_refl _) (by assumption)).mono ?_; rintro e w7 ⟨rfl, hb7⟩; try (go_wp2_with fail)
                          refine hK.out _ _ (by assumption) (fun hHeld => ?_)
                          clear hK K
                          try simp only [Act.put, List.setIfInBounds_toArray, List.set_cons_zero, List.set_cons_succ, List.getElem_toArray, List.getElem_cons_zero, List.getElem_cons_succ]
                          refine wpAnyH_take (i := 25) (v := ?vvf25) rfl (by kernel_rfl) (by kernel_rfl) (by kernel_rfl) (fun _ _ _ h => h) (Or.inl ⟨by rfl, ?hyf25⟩) (by assumption) ?restf25
                          case hyf25 => (intro w0 hw0; go_simp; try with_reducible rfl)
                          try simp only [Act.put, List.setIfInBounds_toArray, List.set_cons_zero, List.set_cons_succ, List.getElem_toArray, List.getElem_cons_zero, List.getElem_cons_succ]
                          refine wpAnyH_done (by kernel_rfl) ?_ _
                          have HS7 := hid (HBS2.out.call hHeld)
                          clear hHeld
                          go_wp2
                          go_roundw
                          case rel => exact ⟨R2, k + 1, by omega, by go_num, HX2, HD3, HBF2, HS7⟩
                          case measure => simp [intOf]; omega
                        · have HD3 : Hid (∀ z ∈ g.take (k + 1), edge a1 l x z = true → z ∈ R2 ++ [y]) := by
                            intro z hz he
                            rw [HTK.out, List.mem_append, List.mem_singleton] at hz
                            rcases hz with hz | rfl
                            · exact List.mem_append_left _ (HD2.out z hz he)
                            · exact List.mem_append_right _ (by simp)
                          have HX3 : Hid ((R2 ++ [y])[m]? = some x) := by unfold Hid; rw [List.getElem?_append_left (by rw [HR2.out]; exact hm2)]; exact HX2.out
                          have HBF3 := hid (HBF2.out.add (by rw [HR2.out]; omega) HYG.out HNR.out)
                          clear HD2
                          go_wp2_with fail
                          refine wp_region_held_drew (S := fun w1 => Below wy.heap.size wy w1) (by kernel_rfl) (bdr (Below.refl _ _)) (fun hHeld => ?_)
                          refine wpAnyH_take (i := 0) (v := ?vvg0) rfl (by kernel_rfl) (by kernel_rfl) (by kernel_rfl) (fun _ _ _ h => h) (Or.inl ⟨by rfl, ?hyg0⟩) (by assumption) ?restg0
                          case hyg0 => (intro w0 hw0; go_simp; try with_reducible rfl)
                          try simp only [Act.put, List.setIfInBounds_toArray, List.set_cons_zero, List.set_cons_succ, List.getElem_toArray, List.getElem_cons_zero]
                          refine wpAnyH_take (i := 1) (v := ?vvg1) rfl (by kernel_rfl) (by kernel_rfl) (by kernel_rfl) (fun _ _ _ h => h) (Or.inl ⟨by rfl, ?hyg1⟩) (by assumption) ?restg1
                          case hyg1 => (intro w0 hw0; go_simp; try with_reducible rfl)
                          try simp only [Act.put, List.setIfInBounds_toArray, List.set_cons_zero, List.set_cons_succ, List.getElem_toArray, List.getElem_cons_zero, List.getElem_cons_succ]
                          refine wpAnyH_take (i := 2) (v := ?vvg2) rfl (by kernel_rfl) (by kernel_rfl) (by kernel_rfl) (fun _ _ _ h => h) (Or.inl ⟨by rfl, ?hyg2⟩) (by assumption) ?restg2
                          case hyg2 => (intro w0 hw0; go_simp; try with_reducible rfl)
                          try simp only [Act.put, List.setIfInBounds_toArray, List.set_cons_zero, List.set_cons_succ, List.getElem_toArray, List.getElem_cons_zero, List.getElem_cons_succ]
                          refine wpAnyH_take (i := 3) (v := ?vvg3) rfl (by kernel_rfl) (by kernel_rfl) (by kernel_rfl) (fun _ _ _ h => h) (Or.inl ⟨by rfl, ?hyg3⟩) (by assumption) ?restg3
                          case hyg3 => (intro w0 hw0; go_simp; try with_reducible rfl)
                          try simp only [Act.put, List.setIfInBounds_toArray, List.set_cons_zero, List.set_cons_succ, List.getElem_toArray, List.getElem_cons_zero, List.getElem_cons_succ]
                          refine wpAnyH_take (i := 4) (v := ?vvg4) rfl (by kernel_rfl) (by kernel_rfl) (by kernel_rfl) (fun _ _ _ h => h) (Or.inl ⟨by rfl, ?hyg4⟩) (by assumption) ?restg4
                          case hyg4 => (intro w0 hw0; have z0 := KG.out _ hw0; go_simp; try with_reducible rfl)
                          try simp only [Act.put, List.setIfInBounds_toArray, List.set_cons_zero, List.set_cons_succ, List.getElem_toArray, List.getElem_cons_zero, List.getElem_cons_succ]
                          refine wpAnyH_take (i := 5) (v := ?vvg5) rfl (by kernel_rfl) (by kernel_rfl) (by kernel_rfl) (fun _ _ _ h => h) (Or.inl ⟨by rfl, ?hyg5⟩) (by assumption) ?restg5
                          case hyg5 => (intro w0 hw0; go_simp; try with_reducible rfl)
                          try simp only [Act.put, List.setIfInBounds_toArray, List.set_cons_zero, List.set_cons_succ, List.getElem_toArray, List.getElem_cons_zero, List.getElem_cons_succ]
                          refine wpAnyH_take (i := 6) (v := ?vvg6) rfl (by kernel_rfl) (by kernel_rfl) (by kernel_rfl) (fun _ _ _ h => h) (Or.inl ⟨by rfl, ?hyg6⟩) (by assumption) ?restg6
                          case hyg6 => (intro w0 hw0; have z1 := KI.out _ hw0; go_simp; try with_reducible rfl)
                          try simp only [Act.put, List.setIfInBounds_toArray, List.set_cons_zero, List.set_cons_succ, List.getElem_toArray, List.getElem_cons_zero, List.getElem_cons_succ]
                          refine wpAnyH_take (i := 7) (v := ?vvg7) rfl (by kernel_rfl) (by kernel_rfl) (by kernel_rfl) (fun _ _ _ h => h) (Or.inl ⟨by rfl, ?hyg7⟩) (by assumption) ?restg7
                          case hyg7 => (intro w0 hw0; go_simp; try with_reducible rfl)
                          try simp only [Act.put, List.setIfInBounds_toArray, List.set_cons_zero, List.set_cons_succ, List.getElem_toArray, List.getElem_cons_zero, List.getElem_cons_succ]
                          refine wpAnyH_take (i := 8) (v := ?vvg8) rfl (by kernel_rfl) (by kernel_rfl) (by kernel_rfl) (fun _ _ _ h => h) (Or.inl ⟨by rfl, ?hyg8⟩) (by assumption) ?restg8
                          case hyg8 => (intro w0 hw0; go_simp; try with_reducible rfl)
                          try simp only [Act.put, List.setIfInBounds_toArray, List.set_cons_zero, List.set_cons_succ, List.getElem_toArray, List.getElem_cons_zero, List.getElem_cons_succ]
                          refine wpAnyH_take (i := 9) (v := ?vvg9) rfl (by kernel_rfl) (by kernel_rfl) (by kernel_rfl) (fun _ _ _ h => h) (Or.inl ⟨by rfl, ?hyg9⟩) (by assumption) ?restg9
                          case hyg9 => (intro w0 hw0; go_simp; try with_reducible rfl)
                          try simp only [Act.put, List.setIfInBounds_toArray, List.set_cons_zero, List.set_cons_succ, List.getElem_toArray, List.getElem_cons_zero, List.getElem_cons_succ]
                          refine wpAnyH_take (i := 10) (v := ?vvg10) rfl (by kernel_rfl) (by kernel_rfl) (by kernel_rfl) (fun _ _ _ h => h) (Or.inl ⟨by rfl, ?hyg10⟩) (by assumption) ?restg10
                          case hyg10 => (intro w0 hw0; go_simp; try with_reducible rfl)
                          try simp only [Act.put, List.setIfInBounds_toArray, List.set_cons_zero, List.set_cons_succ, List.getElem_toArray, List.getElem_cons_zero, List.getElem_cons_succ]
                          refine wpAnyH_take (i := 11) (v := ?vvg11) rfl (by kernel_rfl) (by kernel_rfl) (by kernel_rfl) (fun _ _ _ h => h) (Or.inl ⟨by rfl, ?hyg11⟩) (by assumption) ?restg11
                          case hyg11 => (intro w0 hw0; go_simp; try with_reducible rfl)
                          try simp only [Act.put, List.setIfInBounds_toArray, List.set_cons_zero, List.set_cons_succ, List.getElem_toArray, List.getElem_cons_zero, List.getElem_cons_succ]
                          refine wpAnyH_take (i := 12) (v := ?vvg12) rfl (by kernel_rfl) (by kernel_rfl) (by kernel_rfl) (fun _ _ _ h => h) (Or.inl ⟨by rfl, ?hyg12⟩) (by assumption) ?restg12
                          case hyg12 => (intro w0 hw0; go_simp; try with_reducible rfl)
                          try simp only [Act.put, List.setIfInBounds_toArray, List.set_cons_zero, List.set_cons_succ, List.getElem_toArray, List.getElem_cons_zero, List.getElem_cons_succ]
                          refine wpAnyH_take (i := 13) (v := ?vvg13) rfl (by kernel_rfl) (by kernel_rfl) (by kernel_rfl) (fun _ _ _ h => h) (Or.inl ⟨by rfl, ?hyg13⟩) (by assumption) ?restg13
                          case hyg13 => (intro w0 hw0; have z2 := KR.out _ hw0; go_simp; try with_reducible rfl)
                          try simp only [Act.put, List.setIfInBounds_toArray, List.set_cons_zero, List.set_cons_succ, List.getElem_toArray, List.getElem_cons_zero, List.getElem_cons_succ]
                          refine wpAnyH_take (i := 14) (v := ?vvg14) rfl (by kernel_rfl) (by kernel_rfl) (by kernel_rfl) (fun _ _ _ h => h) (Or.inl ⟨by rfl, ?hyg14⟩) (by assumption) ?restg14
                          case hyg14 => (intro w0 hw0; go_simp; try with_reducible rfl)
                          try simp only [Act.put, List.setIfInBounds_toArray, List.set_cons_zero, List.set_cons_succ, List.getElem_toArray, List.getElem_cons_zero, List.getElem_cons_succ]
                          refine wpAnyH_take (i := 15) (v := ?vvg15) rfl (by kernel_rfl) (by kernel_rfl) (by kernel_rfl) (fun _ _ _ h => h) (Or.inl ⟨by rfl, ?hyg15⟩) (by assumption) ?restg15
                          case hyg15 => (intro w0 hw0; obtain ⟨x0, x1, x2, x3, x4⟩ := KX.out _ hw0; dsimp only at x0 x1 x2 x3 x4; go_simp; try with_reducible rfl)
                          try simp only [Act.put, List.setIfInBounds_toArray, List.set_cons_zero, List.set_cons_succ, List.getElem_toArray, List.getElem_cons_zero, List.getElem_cons_succ]
                          refine wpAnyH_take (i := 16) (v := ?vvg16) rfl (by kernel_rfl) (by kernel_rfl) (by kernel_rfl) (fun _ _ _ h => h) (Or.inl ⟨by rfl, ?hyg16⟩) (by assumption) ?restg16
                          case hyg16 => (intro w0 hw0; go_simp; try with_reducible rfl)
                          try simp only [Act.put, List.setIfInBounds_toArray, List.set_cons_zero, List.set_cons_succ, List.getElem_toArray, List.getElem_cons_zero, List.getElem_cons_succ]
                          refine wpAnyH_take (i := 17) (v := ?vvg17) rfl (by kernel_rfl) (by kernel_rfl) (by kernel_rfl) (fun _ _ _ h => h) (Or.inl ⟨by rfl, ?hyg17⟩) (by assumption) ?restg17
                          case hyg17 => (intro w0 hw0; go_simp; try with_reducible rfl)
                          try simp only [Act.put, List.setIfInBounds_toArray, List.set_cons_zero, List.set_cons_succ, List.getElem_toArray, List.getElem_cons_zero, List.getElem_cons_succ]
                          refine wpAnyH_take (i := 18) (v := ?vvg18) rfl (by kernel_rfl) (by kernel_rfl) (by kernel_rfl) (fun _ _ _ h => h) (Or.inl ⟨by rfl, ?hyg18⟩) (by assumption) ?restg18
                          case hyg18 => (intro w0 hw0; go_simp; try with_reducible rfl)
                          try simp only [Act.put, List.setIfInBounds_toArray, List.set_cons_zero, List.set_cons_succ, List.getElem_toArray, List.getElem_cons_zero, List.getElem_cons_succ]
                          refine wpAnyH_take (i := 19) (v := ?vvg19) rfl (by kernel_rfl) (by kernel_rfl) (by kernel_rfl) (fun _ _ _ h => h) (Or.inl ⟨by rfl, ?hyg19⟩) (by assumption) ?restg19
                          case hyg19 => (intro w0 hw0; go_simp; try with_reducible rfl)
                          try simp only [Act.put, List.setIfInBounds_toArray, List.set_cons_zero, List.set_cons_succ, List.getElem_toArray, List.getElem_cons_zero, List.getElem_cons_succ]
                          refine wpAnyH_take (i := 20) (v := ?vvg20) rfl (by kernel_rfl) (by kernel_rfl) (by kernel_rfl) (fun _ _ _ h => h) (Or.inl ⟨by rfl, ?hyg20⟩) (by assumption) ?restg20
                          case hyg20 => (intro w0 hw0; have z0 := KG.out _ hw0; go_simp; try with_reducible rfl)
                          try simp only [Act.put, List.setIfInBounds_toArray, List.set_cons_zero, List.set_cons_succ, List.getElem_toArray, List.getElem_cons_zero, List.getElem_cons_succ]
                          refine wpAnyH_take (i := 21) (v := ?vvg21) rfl (by kernel_rfl) (by kernel_rfl) (by kernel_rfl) (fun _ _ _ h => h) (Or.inl ⟨by rfl, ?hyg21⟩) (by assumption) ?restg21
                          case hyg21 => (intro w0 hw0; go_simp; try with_reducible rfl)
                          try simp only [Act.put, List.setIfInBounds_toArray, List.set_cons_zero, List.set_cons_succ, List.getElem_toArray, List.getElem_cons_zero, List.getElem_cons_succ]
                          refine wpAnyH_take (i := 22) (v := ?vvg22) rfl (by kernel_rfl) (by kernel_rfl) (by kernel_rfl) (fun _ _ _ h => h) (Or.inl ⟨by rfl, ?hyg22⟩) (by assumption) ?restg22
                          case hyg22 => (intro w0 hw0; obtain ⟨y0, y1, y2, y3, y4⟩ := KY.out _ hw0; dsimp only at y0 y1 y2 y3 y4; go_simp; try with_reducible rfl)
                          try simp only [Act.put, List.setIfInBounds_toArray, List.set_cons_zero, List.set_cons_succ, List.getElem_toArray, List.getElem_cons_zero, List.getElem_cons_succ]
                          refine wpAnyH_take (i := 23) (v := ?vvg23) rfl (by kernel_rfl) (by kernel_rfl) (by kernel_rfl) (fun _ _ _ h => h) (Or.inl ⟨by rfl, ?hyg23⟩) (by assumption) ?restg23
                          case hyg23 => (intro w0 hw0; go_simp; try with_reducible rfl)
                          try simp only [Act.put, List.setIfInBounds_toArray, List.set_cons_zero, List.set_cons_succ, List.getElem_toArray, List.getElem_cons_zero, List.getElem_cons_succ]
                          refine wpAnyH_ready (rs := [24]) (by kernel_rfl) (by simp) (AllReadyH.cons rfl (fun K hK => ?_) AllReadyH.nil)
                          go_simp
                          refine (close_at HCL.out HVX.out HVY.out (Nat.le_refl _) (by assumption)).mono ?_; rintro e w7 ⟨rfl, hb7⟩; try (go_wp2_with fail)
                          refine hK.out _ _ (by assumption) (fun hHeld => ?_)
                          clear hK K
                          try simp only [Act.put, List.setIfInBounds_toArray, List.set_cons_zero, List.set_cons_succ, List.getElem_toArray, List.getElem_cons_zero, List.getElem_cons_succ]
                          refine wpAnyH_take (i := 25) (v := ?vvg25) rfl (by kernel_rfl) (by kernel_rfl) (by kernel_rfl) (fun _ _ _ h => h) (Or.inl ⟨by rfl, ?hyg25⟩) (by assumption) ?restg25
                          case hyg25 => (intro w0 hw0; go_simp; try with_reducible rfl)
                          try simp only [Act.put, List.setIfInBounds_toArray, List.set_cons_zero, List.set_cons_succ, List.getElem_toArray, List.getElem_cons_zero, List.getElem_cons_succ]
                          refine wpAnyH_done (by kernel_rfl) ?_ _
                          have HS7 := hid (HBS2.out.call hHeld)
                          have cg1 := KG.out _ hHeld
                          have ci1 := HS7.out.inn.cell hyi
                          have fi1 := World.rowIs.frozen HS7.out.inn y
                          have hne : wa.heap.size + 1 ≠ b1 := by omega
                          have cg2 : (w7.setCell ⟨wa.heap.size + 1, y, none⟩ (.bool true)).cell? ⟨b1, k, none⟩ = some (.int .i64 (y : Nat)) := (World.cell?_setCell_far w7 ⟨wa.heap.size + 1, y, none⟩ ⟨b1, k, none⟩ (.bool true) hne).trans cg1
                          have hsz7 : wa.heap.size ≤ w7.heap.size := HS7.out.below.size
                          clear hHeld
                          go_wp2_with (at_builtin; refine wp_app_int_at rfl _ _ rfl wa.heap.size _ _ _ rfl ((HS7.out.push y).alloc _) _ _ (y : Nat) rfl (cell_new_set _ _ _ _ _) (by rw [HR2.out]; omega) (by simp; omega) ?_)
                          intro v' w8 hown hgrow hloc
                          have HS8 := hid (BS.add HS7.out hown hgrow (by simpa using hloc))
                          clear hown hgrow hloc cg1 ci1 fi1 cg2
                          go_wp2
                          go_roundw
                          case rel => exact ⟨R2 ++ [y], k + 1, by omega, by go_num, HX3, HD3, HBF3, HS8⟩
                          case measure => simp [intOf]; omega
                    · obtain rfl : k = M := by omega
                      have HBN : Hid (Bf (edge a1 l) g R2 (m + 1)) := by
                        have h2 := HD2.out
                        rw [List.take_of_length_le (by rw [HM.out]; exact Nat.le_refl _)] at h2
                        exact HBF2.out.next HX2.out h2
                      have hm3 : m < R2.length := (List.getElem?_eq_some_iff.1 HX2.out).1
                      go_wp2
                      go_roundw
                      case rel => exact ⟨R2, m + 1, hm3, by go_num, HBN, HBS2⟩
                      case measure => simp [intOf]; omega
                · obtain rfl : m = r := by omega
                  have hfl : m = M := by
                    have h := hbf.out
                    rw [← HR.out] at h
                    have := Bf.full (edge_symm a1 l) HLE.out HG.out h
                    rw [HR.out, HM.out] at this
                    exact this
                  subst hfl
                  have HBE := hid (hB3.out.trans (hbs.out.below.mono hB3.out.size))
                  go_wp2
                  go_roundw
                  case rel => exact ⟨p + 1, by omega, by go_num, HBE⟩
                  case measure => simp [intOf]; omega
            · obtain rfl : p = G1 := by omega
              go_wp2
              go_ret
              exact ⟨rfl, bl HB6.out hB3.out⟩
    · have hlen : (E = 2 ∧ 200 < n) ∨ (E = 1 ∧ ¬ 200 < n) := by
        have := HE.out
        unfold errG at this
        rw [HN.out] at this
        by_cases h : 200 < n
        · rw [if_pos h] at this; exact .inl ⟨this.symm, h⟩
        · rw [if_neg h] at this; exact .inr ⟨this.symm, h⟩
      rcases hlen with ⟨rfl, h⟩ | ⟨rfl, h⟩
      all_goals
        go_wp2
        go_ret
        exact ⟨ret_bool (by simp; omega), HB5.out⟩

theorem own : ownKnob Try.prog.godebug = none := by kernel_rfl
theorem laidOut : laidOutB Try.prog = true := by kernel_rfl
set_option maxRecDepth 100000 in
theorem lifted (os : Os) (started : os.Started) (H : Type) (enc : TypeId × Value → H) :
    ReturnsInHanded {} Try.checked os 12 .any (Rows.mergePartitionSpec.pre6 enc Try.prog Try.f12 Rows.mergePartitionRow.domain false) (Rows.mergePartitionSpec.post enc Try.prog Try.f12 false true false false) := by
  refine returnsInHanded_of_change (C := Try.checked) own started (by kernel_rfl) Try.func12
    (ChangeSpec.witness6 (enc := enc) (C := Try.checked) false ⟨#[], #[.slice none 0 0, .int .i64 0], []⟩ 8 (by kernel_rfl) (by kernel_rfl) (by kernel_rfl) (by kernel_rfl)) ?_
  intro W base args ds gs before hval0 hW hcnd _
  have hval : ∀ (j : Nat) t v, Try.f12.params[j]? = some t → args[j]? = some v → Value.okWide Try.prog W .any base t v := hval0
  have hW' := hW
  obtain ⟨p, q, hA0, hV, rfl, hfz, hnd⟩ := hW
  have hA : DataW.TrodAll enc Try.prog W 0 (fun _ => true) true Try.f12.params.toList args.toList ds p := hA0
  rw [Try.params12] at hA hval
  obtain ⟨v0, vs0, d0, ds0, p0, q0, hargs, rfl, rfl, h0, r0⟩ := trodAll_cons hA
  obtain ⟨v1, vs1, d1, ds1, p1, q1, rfl, rfl, rfl, h1, r1⟩ := trodAll_cons r0
  obtain ⟨rfl, rfl, rfl⟩ := trodAll_nil r1
  obtain rfl : args = #[v0, v1] := by cases args; simp_all
  obtain ⟨rfl, rfl⟩ := trodVars_none hV
  have k0 := h0
  have lt0 : ∀ x ∈ p0, x.block < W.heap.size := by obtain ⟨m, hm⟩ := k0; exact DataW.trod_lt m _ _ _ hm
  obtain ⟨A0, l0, c0, rfl, z0, hz0⟩ := open_alerts (hval 0 42 v0 rfl rfl) h0
  obtain ⟨a1, rfl, rfl, rfl, w1⟩ := open_int Try.underlying3 (hval 1 3 v1 rfl rfl) h1
  clear hA0 hval0
  refine (walk W A0 l0 c0 z0 hz0 a1 w1).mono fun e W' ⟨he, bel⟩ => ?_
  subst he
  exact ⟨_, rfl, _, _, _, [], _, [], hW', trodAll_mk1 (shut_bool Try.underlying4 _), (trodAll_cons_mk (Below.trod laidOut (by kernel_rfl) (of_decide_eq_true (by kernel_rfl)) k0 bel lt0) (trodAll_cons_mk (shut_int Try.underlying3 w1) trodAll_mk0)), rfl, bel.frame _, fun h => by cases h⟩

theorem over : Rows.mergePartitionRow.holds Try.pinned (OpenSpec.ofChange Rows.mergePartitionSpec) :=
  OpenClaim.holds_of_wide 12 Try.f12 rfl rfl rfl rfl rfl rfl rfl ⟨rfl, rfl, rfl, rfl, rfl⟩ rfl rfl rfl rfl rfl (by kernel_rfl) Try.func12 (by kernel_rfl)
    (of_decide_eq_true (by kernel_rfl)) (by unfold Func.isWrapper; first | (rw [if_pos (by decide +kernel)]; kernel_rfl) | (rw [if_neg (by decide +kernel)]; exact ⟨rfl, rfl⟩))
    (fun os started H enc _ => lifted os started H enc)
theorem proved : Rows.MergePartitionSaid := over
#print axioms proved
end Go.Proofs.Ytfddnmibjaibhaa.mergePartition
