/- of of the law file: the number of the group of each index. -/
import Derived.Test.YtfddnmibjaibhaaME
import Derived.Test.YtfddnmibjaibhaaMF
namespace Go.Proofs.Ytfddnmibjaibhaa
open Go.RowKit

set_option maxHeartbeats 800000 in
set_option maxRecDepth 100000 in
theorem of_any (A : Option Addr) (cp lo hi n : Nat) (c : Nat → Nat) (w : World) (hG : RowG w lo hi A (gl n c)) (hhi : hi ≤ w.heap.size) (hn : n ≤ 200) :
    Calls Try.prog 31 #[.slice A (gl n c).length cp, .int .i64 (n : Nat)] w fun e w' => e = .returned (.tuple #[.slice (some ⟨w.heap.size, 0, none⟩) n n, .bool true]) ∧ w'.rowIs w.heap.size 3 n (fun j => .int .i64 ((idx n c j + 1 : Nat))) ∧ Below w.heap.size w w' := by
  obtain ⟨G, hGl⟩ : ∃ G, (gl n c).length = G := ⟨_, rfl⟩
  rw [hGl]
  have HG := hid hG
  have HGL := hid hGl
  have hGn : G ≤ n := by rw [← hGl, gl_length]; exact fr_le n c
  clear hG hGl
  have hmk := fun (n : Nat) (h : n ≤ 200) (w : World) => run_make_row' (P := Try.prog) 31 3 (.int .i64 0) 8 Try.underlying31 Try.info3 rfl .i64 .i64 n (by omega) (by omega) w
  have hmk' := hmk n hn
  clear hmk
  go_enter Try.func31, Try.ntmps31
  go_wp2_with fail
  clear hmk'
  have h0 : Hid ((w.alloc (Obj.cells (madeCells #[Value.int IntKind.i64 0] n) 3)).rowIs w.heap.size 3 n (fun j => .int .i64 (numF n c 0 [] j : Nat))) :=
    (World.rowIs_made w (.int .i64 0) n 3).congr fun j _ => by simp [numF]
  go_loopw [7, 8] (fun sv iv wr => ∃ (i s : Nat), i ≤ G ∧ iv = .int .i64 (i : Nat) ∧ sv = .int .i64 (s : Nat) ∧ Hid (s = ((gl n c).take i).flatten.length) ∧ Hid (wr.rowIs w.heap.size 3 n (fun j => .int .i64 (numF n c i [] j : Nat))) ∧ Hid (Below w.heap.size w wr)) (fun _ iv _ => G - (intOf iv).toNat)
  case atStart => exact ⟨0, 0, Nat.zero_le _, rfl, rfl, by simp [Hid], h0, ba (Below.refl _ _) _⟩
  case round =>
    obtain ⟨i, s, hi', rfl, rfl, hs, hrow, hB⟩ := hrel
    have hsn : s ≤ n := by rw [hs.out]; exact gl_take_le n c i
    by_cases hiG : i < G
    · obtain ⟨l, hl⟩ : ∃ l, (gl n c)[i]? = some l := ⟨_, List.getElem?_eq_getElem (by rw [HGL.out]; exact hiG)⟩
      obtain ⟨b, rfl, hb, hcell⟩ := HG.out.at_ (by rw [HGL.out]; omega)
      have hll := gl_len_le (List.mem_of_getElem? hl)
      obtain ⟨A1, c1, e1, r1⟩ := hcell i l hl
      obtain ⟨b1, rfl, hb1, t1⟩ := r1.at_ hll.1
      have HT1 := hid t1
      have HCELL := hid hcell
      obtain ⟨f, hf, -, hl0, hsort, hmem⟩ := gl_at hl
      have HL := hid hl
      have HL0 := hid hl0
      have HSORT := hid hsort
      have HMEM := hid hmem
      have HSUM := hid (gl_take_sum hl)
      obtain ⟨M, hM⟩ : ∃ M, l.length = M := ⟨_, rfl⟩
      have HM := hid hM
      rw [hM] at hll e1
      have e1r := (hB.out.cell (p := ⟨b, i, none⟩) (by simp; omega)).trans e1
      have hbs : b < w.heap.size := by omega
      have hb1s : b1 < w.heap.size := by omega
      clear hl hcell r1 t1 hf hl0 hsort hmem e1 hM
      go_wp2_with fail
      clear e1r
      go_loopw [7, 10] (fun sv kv wx => ∃ (k z : Nat), k ≤ M ∧ kv = .int .i64 (k : Nat) ∧ sv = .int .i64 (z : Nat) ∧ Hid (z = s + k) ∧ Hid (wx.rowIs w.heap.size 3 n (fun j => .int .i64 (numF n c i (l.take k) j : Nat))) ∧ Hid (Below w.heap.size w wx)) (fun _ kv _ => M - (intOf kv).toNat)
      case atStart => exact ⟨0, s, Nat.zero_le _, rfl, rfl, rfl, hrow, hB⟩
      case round =>
        obtain ⟨k, z, hk, rfl, rfl, hz, hrow2, hB2⟩ := hrel
        have hzn : z ≤ 2 * n := by rw [hz.out]; omega
        by_cases hkM : k < M
        · obtain ⟨x, hx⟩ : ∃ x, l[k]? = some x := ⟨_, List.getElem?_eq_getElem (by rw [HM.out]; exact hkM)⟩
          have hxm := HMEM.out x (List.mem_of_getElem? hx)
          have hxn := hxm.1
          have hidx : idx n c x = i := (idx_mem HL.out hxn).1 (List.mem_of_getElem? hx)
          have hnt : x ∉ l.take k := by
            intro hm
            obtain ⟨q, hq⟩ := List.mem_iff_getElem?.1 hm
            rw [List.getElem?_take] at hq
            split at hq
            · rename_i hqk
              have hpw := HSORT.out
              rw [List.pairwise_iff_getElem] at hpw
              obtain ⟨a1, a2⟩ := List.getElem?_eq_some_iff.1 hq
              obtain ⟨a3, a4⟩ := List.getElem?_eq_some_iff.1 hx
              have := hpw q k a1 a3 hqk
              omega
            · cases hq
          have hzero : numF n c i (l.take k) x = 0 := by unfold numF; rw [if_neg]; rintro (h | h); omega; exact hnt h
          have cx := (hB2.out.cell (p := ⟨b1, k, none⟩) (by simpa using hb1s)).trans (HT1.out k x hx)
          have co := hrow2.out.cell hxn
          rw [hzero] at co
          have co : wr.cell? ⟨w.heap.size, x, none⟩ = some (.int .i64 0) := co
          have fo := hrow2.out.frozen x
          have htk : l.take (k + 1) = l.take k ++ [x] := by
            obtain ⟨a3, a4⟩ := List.getElem?_eq_some_iff.1 hx
            rw [List.take_succ_eq_append_getElem a3, a4]
          have HNX : ∀ (m : Nat) (v : Value), v = .int .i64 ((i + 1 : Nat) : Int) → Hid (((wr.drewN m).setCell ⟨w.heap.size, x, none⟩ v).rowIs w.heap.size 3 n (fun j => .int .i64 (numF n c i (l.take (k + 1)) j : Nat))) := by
            intro m v hv
            subst hv
            have h1 : (wr.drewN m).rowIs w.heap.size 3 n (fun j => .int .i64 (numF n c i (l.take k) j : Nat)) := hrow2.out
            refine (h1.set x _).congr fun j hj => ?_
            by_cases e : j = x
            · subst e; rw [if_pos rfl]; unfold numF; rw [htk, if_pos (.inr (by simp)), hidx]
            · rw [if_neg e]; unfold numF; rw [htk]; simp [e]
          have HNX := hid HNX
          have k1 : decide ((x : Int) < 0) = false := decide_eq_false (by omega)
          have k2 : decide (n ≤ x) = false := decide_eq_false (by omega)
          have hxi : (x : Int) < (n : Int) := by omega
          have HX := hid hx
          clear hx hxm hidx hnt hzero htk hrow2
          by_cases hk0 : k = 0
          · subst hk0
            go_wp2_with fail
            go_quiet (fail)
            go_wp2
            go_roundw
            case rel => exact ⟨1, z + 1, by omega, by go_num, by go_num, (by unfold Hid; rw [hz.out]), HNX.out _ _ (by go_num), Below.setCell (bl hB2.out (dN _ _)) (p := ⟨w.heap.size, x, none⟩) (Nat.le_refl _) _⟩
            case measure => simp [intOf]; omega
          · obtain ⟨k', rfl⟩ : ∃ k', k = k' + 1 := ⟨k - 1, by omega⟩
            obtain ⟨y, hy⟩ : ∃ y, l[k']? = some y := ⟨_, List.getElem?_eq_getElem (by rw [HM.out]; omega)⟩
            have cy := (hB2.out.cell (p := ⟨b1, k', none⟩) (by simpa using hb1s)).trans (HT1.out k' y hy)
            have hyx : y < x := by
              have hpw := HSORT.out
              rw [List.pairwise_iff_getElem] at hpw
              obtain ⟨a1, a2⟩ := List.getElem?_eq_some_iff.1 hy
              obtain ⟨a3, a4⟩ := List.getElem?_eq_some_iff.1 HX.out
              have := hpw k' (k' + 1) a1 a3 (by omega)
              omega
            have k3 : decide (x ≤ y) = false := decide_eq_false (by omega)
            have ek : ((k' + 1 : Nat) : Int) - 1 = (k' : Int) := by omega
            clear hy hyx hk0
            go_wp2_with fail
            go_quiet (fail)
            go_wp2
            go_roundw
            case rel => exact ⟨k' + 1 + 1, z + 1, by omega, by go_num, by go_num, (by unfold Hid; rw [hz.out]; omega), HNX.out _ _ (by go_num), Below.setCell (bl hB2.out (dN _ _)) (p := ⟨w.heap.size, x, none⟩) (Nat.le_refl _) _⟩
            case measure => simp [intOf]; omega
        · obtain rfl : k = M := by omega
          have hrow3 : Hid (wr.rowIs w.heap.size 3 n (fun j => .int .i64 (numF n c (i + 1) [] j : Nat))) := by
            have h1 := hrow2.out
            rw [List.take_of_length_le (by rw [HM.out]; exact Nat.le_refl _)] at h1
            exact h1.congr fun j hj => by rw [numF_next HL.out hj]
          have hz2 : Hid (z = ((gl n c).take (i + 1)).flatten.length) := by unfold Hid; rw [HSUM.out, HM.out, hz.out, hs.out]
          have hf0 : ∃ x0, l[0]? = some x0 := ⟨_, HL0.out⟩
          obtain ⟨x0, hx0⟩ := hf0
          have cx0 := (hB2.out.cell (p := ⟨b1, 0, none⟩) (by simpa using hb1s)).trans (HT1.out 0 x0 hx0)
          have hM0 : ((k : Int) == 0) = false := by simp; omega
          clear hrow2 hrow
          by_cases hi0 : i = 0
          · subst hi0
            clear hx0 cx0
            go_wp2_with fail
            go_quiet (fail)
            go_wp2
            go_roundw
            case rel => exact ⟨1, z, by omega, by go_num, rfl, hz2, hrow3, bl hB2.out (dN _ _)⟩
            case measure => simp [intOf]; omega
          · obtain ⟨i', rfl⟩ : ∃ i', i = i' + 1 := ⟨i - 1, by omega⟩
            obtain ⟨m, hm⟩ : ∃ m, (gl n c)[i']? = some m := ⟨_, List.getElem?_eq_getElem (by rw [HGL.out]; omega)⟩
            obtain ⟨A2, c2, e2, r2⟩ := HCELL.out i' m hm
            have hml := gl_len_le (List.mem_of_getElem? hm)
            obtain ⟨b2, rfl, hb2, t2⟩ := r2.at_ hml.1
            obtain ⟨y0, hy0⟩ : ∃ y0, m[0]? = some y0 := ⟨_, List.getElem?_eq_getElem hml.1⟩
            have hlt := gl_first hm HL.out (by omega) hy0 hx0
            have e2r := (hB2.out.cell (p := ⟨b, i', none⟩) (by simp; omega)).trans e2
            have cy0 := (hB2.out.cell (p := ⟨b2, 0, none⟩) (by simp; omega)).trans (t2 0 y0 hy0)
            have k3 : decide (x0 ≤ y0) = false := decide_eq_false (by omega)
            have ek : ((i' + 1 : Nat) : Int) - 1 = (i' : Int) := by omega
            obtain ⟨M2, hM2⟩ : ∃ M2, m.length = M2 := ⟨_, rfl⟩
            rw [hM2] at e2r hml
            clear hm e2 r2 t2 hy0 hx0 hlt hM2 hi0
            go_wp2_with fail
            go_quiet (fail)
            go_wp2
            go_roundw
            case rel => exact ⟨i' + 1 + 1, z, by omega, by go_num, rfl, hz2, hrow3, bl hB2.out (dN _ _)⟩
            case measure => simp [intOf]; omega
    · obtain rfl : i = G := by omega
      have hsum : s = n := by rw [hs.out, List.take_of_length_le (by rw [HGL.out]; exact Nat.le_refl _), gl_sum]
      have HROW : Hid (wr.rowIs w.heap.size 3 n (fun j => .int .i64 ((idx n c j + 1 : Nat)))) :=
        World.rowIs.congr hrow.out fun j hj => by have := idx_lt (c := c) hj; rw [HGL.out] at this; unfold numF; rw [if_pos (.inl this)]
      subst hsum
      clear hs hrow
      go_wp2
      go_ret2
      exact ⟨rfl, HROW.out, hB.out⟩
end Go.Proofs.Ytfddnmibjaibhaa
