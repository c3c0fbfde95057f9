/- The reference's Windows computes the same spans. -/
import Derived.Test.YtpggggjohfbcdaaA6
namespace Go.Proofs.Ytpggggjohfbcdaa
open Go.RowKit

/-- the windows after k slots -/
def fw (least s t night : Int) (k : Nat) : List (Int × Int) := finW (stW least (upto s t night k)) k
theorem fw_len (least s t night : Int) (k : Nat) : (fw least s t night k).length ≤ k + 1 := by
  have h := (stW_bd least (upto s t night k)).1
  rw [upto_length] at h
  have := finW_len (stW least (upto s t night k)) k
  unfold fw; omega
theorem st_succ (least s t night : Int) (k : Nat) (hk : k < 96) : stW least (upto s t night (k + 1)) =
    if ht s t (96 * night + (k : Int)) < least then (finW (stW least (upto s t night k)) k, -1) else ((stW least (upto s t night k)).1, if (stW least (upto s t night k)).2 < 0 then (k : Int) else (stW least (upto s t night k)).2) := by
  rw [upto_succ, stW_snoc]
  unfold stepW
  have e1 : ((shAt s t night k).1.val : Int) = k := by show ((k % 96 : Nat) : Int) = k; omega
  rw [e1]
  rfl
theorem st_inv (least s t night : Int) (k : Nat) (hk : k ≤ 96) : (∀ p ∈ (stW least (upto s t night k)).1, p.2 ≤ (k : Int) - 2) ∧ (stW least (upto s t night k)).2 < (k : Int) ∧ -1 ≤ (stW least (upto s t night k)).2 := by
  induction k with
  | zero => exact ⟨by simp [stW, upto], by simp [stW, upto], by simp [stW, upto]⟩
  | succ k ih =>
    obtain ⟨h1, h2, h3⟩ := ih (by omega)
    rw [st_succ _ _ _ _ _ (by omega)]
    split
    · refine ⟨?_, by simp only; omega, by simp⟩
      intro p hp
      simp only [finW] at hp
      split at hp
      · rw [List.mem_append] at hp
        rcases hp with hp | hp
        · have := h1 p hp; omega
        · have : p = ((stW least (upto s t night k)).2, (k : Int) - 1) := by simpa using hp
          rw [this]; simp only; omega
      · have := h1 p hp; omega
    · refine ⟨fun p hp => by have := h1 p hp; omega, ?_, ?_⟩ <;> simp only <;> split <;> omega

theorem fw_low (least s t night : Int) (k : Nat) (hk : k < 96) (h : ht s t (96 * night + (k : Int)) < least) : fw least s t night (k + 1) = fw least s t night k := by
  unfold fw
  rw [st_succ _ _ _ _ _ hk, if_pos h]
  simp [finW]
theorem fw_more (least s t night : Int) (k : Nat) (hk : k < 96) (h : ¬ ht s t (96 * night + (k : Int)) < least) (hf : 0 ≤ (stW least (upto s t night k)).2) :
    ∃ o f, fw least s t night k = o ++ [(f, (k : Int) - 1)] ∧ fw least s t night (k + 1) = o ++ [(f, (k : Int))] := by
  refine ⟨(stW least (upto s t night k)).1, (stW least (upto s t night k)).2, ?_, ?_⟩
  · unfold fw finW; rw [if_pos hf]
  · unfold fw
    rw [st_succ _ _ _ _ _ hk, if_neg h, if_neg (by omega)]
    unfold finW; rw [if_pos hf]
    congr 3
    omega
theorem fw_new (least s t night : Int) (k : Nat) (hk : k < 96) (h : ¬ ht s t (96 * night + (k : Int)) < least) (hf : (stW least (upto s t night k)).2 < 0) :
    (∀ p ∈ fw least s t night k, p.2 ≤ (k : Int) - 2) ∧ fw least s t night (k + 1) = fw least s t night k ++ [((k : Int), (k : Int))] := by
  have e : fw least s t night k = (stW least (upto s t night k)).1 := by unfold fw finW; rw [if_neg (by omega)]
  refine ⟨by rw [e]; exact (st_inv least s t night k (by omega)).1, ?_⟩
  rw [e]
  unfold fw
  rw [st_succ _ _ _ _ _ hk, if_neg h, if_pos hf]
  unfold finW; rw [if_pos (by simp only; omega)]
  congr 3
  omega

theorem own_succS {w : World} {base e size : Nat} {v : Value} {n : Nat} {xs : List Value} (h : w.ownsRow base e size v (n + 1) xs) : ∃ g cap, v = .slice (some ⟨g, 0, none⟩) (n + 1) cap := ownsRow_succ h
theorem spanCells_set (o : List (Int × Int)) (f u v : Int) : (spanCells (o ++ [(f, u)])).set (o.length * 2 + 1) (.int .i64 v) = spanCells (o ++ [(f, v)]) := by
  rw [spanCells_append, spanCells_append, List.set_append_right _ _ (by rw [spanCells_length]; omega), spanCells_length]
  have : o.length * 2 + 1 - o.length * 2 = 1 := by omega
  rw [this]
  rfl

/-- 'out = append(out, span)': the law with its closed sides paid. -/
theorem wp_app_span {ops : Array Oper} {rest : List Oper} {o : Oper} {a : Act} {Q : Exit → Act → World → Prop} {w : World} (hgd : o.guard = none) (s x : Operand)
    (ho : o.op = .call { callee := .builtin .append, args := #[s, x], argTypes := #[28, 28] })
    (base : Nat) (v : Value) (n : Nat) (xs : List Value) (hs : a.eval s = v) (hown : w.ownsRow base 39 2 v n xs)
    (b c : Nat) (p q : Int) (hx : a.eval x = .slice (some ⟨b, 0, none⟩) 1 c) (hc0 : w.cell? ⟨b, 0, none⟩ = some (.int .i64 p)) (hc1 : w.cell? ⟨b, 1, none⟩ = some (.int .i64 q))
    (hn : n ≤ 1000000) (hbase : base ≤ w.heap.size)
    (h : ∀ v' w', w'.ownsRow base 39 2 v' (n + 1) (xs ++ [.int .i64 p, .int .i64 q]) → w.grownBy w' v.ownBlock → wpList Try.prog ops Q rest (a.put o.dst v') w') : wpList Try.prog ops Q (o :: rest) a w := by
  obtain ⟨i0, hi, hz0, hz1, hz2⟩ := info_parts Try.info39
  refine wpList_append_own _ hgd s x 28 ho base 39 i0 (.agg #[.int .i64 0, .int .i64 0]) 2 16 Try.underlying28 hi hz0 hz1 hz2 rfl (by decide) v n xs hs hown ⟨b, 0, none⟩ 1 c [.int .i64 p, .int .i64 q] hx rfl ?_ ?_ ?_ ?_ hbase ?_
  · intro j u hj
    match j, hj with
    | 0, hj => simp at hj; subst hj; simpa [Addr.add] using hc0
    | 1, hj => simp at hj; subst hj; simpa [Addr.add] using hc1
  · intro u hu; simp at hu; rcases hu with rfl | rfl <;> rfl
  · unfold maxLen; omega
  · omega
  · intro v' w' h1 h2 _
    exact h v' w' h1 h2

set_option maxHeartbeats 1600000 in
set_option maxRecDepth 100000 in
theorem rWindows_ok (s t night least : Int) (w : World) (h0 : 0 ≤ s) (h1 : s < 16) (h2 : 0 ≤ t) (h3 : t < 512) (h4 : 0 ≤ night) (h5 : night < 400) :
    Calls Try.prog 18 #[.int .i64 s, .int .i64 t, .int .i64 night, .int .i64 least] w fun e W' =>
      ∃ v, e = .returned (.tuple #[v, .int .i64 0]) ∧ W'.ownsRow w.heap.size 39 2 v (winL least s t night).length (spanCells (winL least s t night)) ∧ Below w.heap.size w W' := by
  have hw2 : wiB t 512 = true := wiB_of.2 ⟨h2, h3⟩
  have hwin : winL least s t night = fw least s t night 96 := rfl
  rw [hwin]
  obtain ⟨FW, hFW⟩ : ∃ FW, fw least s t night = FW := ⟨_, rfl⟩
  rw [hFW]
  have hlen : ∀ k, (FW k).length ≤ k + 1 := fun k => by rw [← hFW]; exact fw_len _ _ _ _ _
  have HFW := hid hFW
  have HLEN := hid hlen
  clear hFW hlen hwin
  go_enter Try.func18, Try.ntmps18
  go_wp2_with fail
  refine (rTile_any _ _).mono ?_
  rintro e w1 ⟨rfl, rfl⟩
  go_wp2_with fail
  go_loopw [10, 11] (fun v i wr => ∃ k : Nat, k ≤ 96 ∧ i = .int .i64 k ∧ wr.ownsRow w.heap.size 39 2 v (FW k).length (spanCells (FW k)) ∧ Below w.heap.size w wr)
    (fun _ i _ => 96 - (intOf i).toNat)
  case atStart => exact ⟨0, Nat.zero_le _, rfl, by rw [← HFW.out]; exact World.ownsRow_nil _ _ _ _, Below.refl _ _⟩
  case round =>
    obtain ⟨k, hk, rfl, hown, hbel⟩ := hrel
    by_cases hlt : k < 96
    · have hle := HLEN.out k
      obtain ⟨h, hh⟩ : ∃ h, ht s t (96 * night + (k : Int)) = h := ⟨_, rfl⟩
      have HHT := hid hh
      go_wp2_with fail
      refine (rHeight_ok _ _ _ _ (by omega) (by omega) h0 h1 h2 h3).mono ?_
      rw [hh]
      rintro e w2 ⟨rfl, rfl⟩
      clear hh
      by_cases hd : h < least
      · have hown3 : wr.ownsRow w.heap.size 39 2 u10 (FW (k + 1)).length (spanCells (FW (k + 1))) := by
          rw [← HFW.out, fw_low _ _ _ _ _ hlt (by rw [HHT.out]; exact hd), HFW.out]; exact hown
        clear hown hle
        go_wp2
        go_roundw
        case rel => exact ⟨k + 1, by omega, by go_num, hown3, hbel⟩
        case measure => simp [intOf]; omega
      · by_cases hf : 0 ≤ (stW least (upto s t night k)).2
        · obtain ⟨o, f, e1, e2⟩ := fw_more least s t night k hlt (by rw [HHT.out]; exact hd) hf
          rw [HFW.out] at e1 e2
          obtain ⟨m, hm⟩ : ∃ m, o.length = m := ⟨_, rfl⟩
          rw [e1, List.length_append, List.length_singleton, hm] at hown hle
          obtain ⟨g, cap, rfl⟩ := own_succS hown
          have hc : wr.cell? ⟨g, m * 2 + 1, none⟩ = some (.int .i64 ((k : Int) - 1)) := by
            rw [hown.cellAt _ (by omega)]
            have := (spanCells_at (o ++ [(f, (k : Int) - 1)]) m (by simp; omega)).2
            rw [this]
            simp [← hm]
          have hz := hown.frozenAt (m * 2 + 1)
          have E1 := hid e1
          have E2 := hid e2
          have HM := hid hm
          have HOWN := hid hown
          clear e1 e2 hm hf hown
          go_wp2
          have hst := HOWN.out.stored (m * 2 + 1) (.int .i64 (k : Int))
          have hown3 : (wr.setCell ⟨g, m * 2 + 1, none⟩ (.int .i64 (k : Int))).ownsRow w.heap.size 39 2 (.slice (some ⟨g, 0, none⟩) (m + 1) cap) (FW (k + 1)).length (spanCells (FW (k + 1))) := by
            have h1 := hst.1
            rw [← HM.out, spanCells_set] at h1
            rw [E2.out, List.length_append, List.length_singleton, ← HM.out]
            exact h1
          have hgb : w.heap.size ≤ g := (HOWN.out.lt g rfl).1
          go_roundw
          case rel => exact ⟨k + 1, by omega, by go_num, hown3, hbel.setCell (p := ⟨g, m * 2 + 1, none⟩) hgb _⟩
          case measure => simp [intOf]; omega
        · obtain ⟨e1, e2⟩ := fw_new least s t night k hlt (by rw [HHT.out]; exact hd) (by omega)
          rw [HFW.out] at e1 e2
          have E1 := hid e1
          have E2 := hid e2
          clear e1 e2 hf
          have hlt' := hown.lt
          by_cases hn : FW k = []
          · rw [hn] at hown
            obtain ⟨_, A, c, rfl, _⟩ := own_shapeS hown
            have HN := hid hn
            clear hn
            go_wp2_with (at_builtin; refine wp_app_span rfl _ _ rfl w.heap.size _ _ _ rfl (hown.alloc _) _ _ k k rfl (by simp) (by simp) (by simp) (by have := hbel.size; simp; omega) ?_)
            intro v' w3 hown' hgrow
            have hown3 : w3.ownsRow w.heap.size 39 2 v' (FW (k + 1)).length (spanCells (FW (k + 1))) := by
              rw [E2.out, HN.out]; exact hown'
            have hb3 : Below w.heap.size w w3 := (hbel.alloc hbel.size _).grown hgrow ((hbel.alloc hbel.size _).size) (fun g hg => (hlt' g hg).1)
            clear hown' hgrow hown hlt'
            go_wp2
            go_roundw
            case rel => exact ⟨k + 1, by omega, by go_num, hown3, hb3⟩
            case measure => simp [intOf]; omega
          · obtain ⟨o, p, ho⟩ : ∃ o p, FW k = o ++ [p] := ⟨_, _, (List.dropLast_concat_getLast hn).symm⟩
            have hpl := E1.out p (by rw [ho]; simp)
            obtain ⟨m, hm⟩ : ∃ m, o.length = m := ⟨_, rfl⟩
            rw [ho, List.length_append, List.length_singleton, hm] at hown hle
            obtain ⟨g, cap, rfl⟩ := own_succS hown
            have hc : wr.cell? ⟨g, m * 2 + 1, none⟩ = some (.int .i64 p.2) := by
              rw [hown.cellAt _ (by omega)]
              have := (spanCells_at (o ++ [p]) m (by simp; omega)).2
              rw [this]
              simp [← hm]
            have hpe : (p.2 == (k : Int) - 1) = false := by simp; omega
            have HO := hid ho
            have HM := hid hm
            have HOWN := hid hown
            clear ho hm hown hn
            go_wp2_with (at_builtin; refine wp_app_span rfl _ _ rfl w.heap.size _ _ _ rfl (HOWN.out.alloc _) _ _ k k rfl (by simp) (by simp) (by omega) (by have := hbel.size; simp; omega) ?_)
            intro v' w3 hown' hgrow
            have hown3 : w3.ownsRow w.heap.size 39 2 v' (FW (k + 1)).length (spanCells (FW (k + 1))) := by
              rw [E2.out, HO.out, spanCells_append, List.length_append, List.length_append, List.length_singleton, List.length_singleton, HM.out]; exact hown'
            have hb3 : Below w.heap.size w w3 := (hbel.alloc hbel.size _).grown hgrow ((hbel.alloc hbel.size _).size) (fun g hg => (hlt' g hg).1)
            clear hown' hgrow hlt'
            go_wp2
            go_roundw
            case rel => exact ⟨k + 1, by omega, by go_num, hown3, hb3⟩
            case measure => simp [intOf]; omega
    · obtain rfl : k = 96 := by omega
      go_wp2
      go_ret2
      exact ⟨_, rfl, hown, hbel⟩

set_option maxHeartbeats 800000 in
theorem rWindows_err (s t night least : Int) (w : World) (h : ¬ (0 ≤ s ∧ s < 16 ∧ 0 ≤ t ∧ t < 512 ∧ 0 ≤ night ∧ night < 400)) :
    Calls Try.prog 18 #[.int .i64 s, .int .i64 t, .int .i64 night, .int .i64 least] w fun e W' =>
      e = .returned (.tuple #[.slice none 0 0, .int .i64 1]) ∧ w = W' := by
  by_cases a : 0 ≤ s
  · by_cases b : 15 < s
    · clear h
      go_enter Try.func18, Try.ntmps18
      go_wp2
      go_ret2
      exact ⟨rfl, rfl⟩
    · by_cases ht : 0 ≤ t ∧ t < 512
      · have hw2 : wiB t 512 = true := wiB_of.2 ht
        by_cases c : 0 ≤ night
        · have d : 399 < night := by omega
          clear h ht
          go_enter Try.func18, Try.ntmps18
          go_wp2_with fail
          refine (rTile_any _ _).mono ?_
          rintro e w1 ⟨rfl, rfl⟩
          go_wp2
          go_ret2
          exact ⟨rfl, rfl⟩
        · clear h ht
          go_enter Try.func18, Try.ntmps18
          go_wp2_with fail
          refine (rTile_any _ _).mono ?_
          rintro e w1 ⟨rfl, rfl⟩
          go_wp2
          go_ret2
          exact ⟨rfl, rfl⟩
      · have hw2 : wiB t 512 = false := wiB_not.2 ht
        clear h ht
        go_enter Try.func18, Try.ntmps18
        go_wp2_with fail
        refine (rTile_any _ _).mono ?_
        rintro e w1 ⟨rfl, rfl⟩
        go_wp2
        go_ret2
        exact ⟨rfl, rfl⟩
  · clear h
    go_enter Try.func18, Try.ntmps18
    go_wp2
    go_ret2
    exact ⟨rfl, rfl⟩
end Go.Proofs.Ytpggggjohfbcdaa
