/- AirmassWindows returns true at every input: the windows hold exactly the slots whose height is not less than the least one, are in order and apart, and each window for the greater least height lies within one for the lesser one. No conditions. -/
import Derived.Test.YtpggggjohfbcdaaRows
import Derived.Test.YtpggggjohfbcdaaA9
import Derived.ProofKit
import Derived.OpenShut
import Derived.ChangeOld
import Derived.Below
import Derived.Lib.SmallJoins
namespace Go.Proofs.Ytpggggjohfbcdaa.airmassWindows
open Go.ChangeShapes Go.WideShapes Go.ChangeAt Go.RowKit Go.Joins
set_option linter.unusedVariables false

theorem Height_is {s t m v : Int} (hv : ht s t m = v) (w : World) (h0 : 0 ≤ m) (h1 : m < 38400) (h2 : 0 ≤ s) (h3 : s < 16) (h4 : 0 ≤ t) (h5 : t < 512) : Calls Try.prog 13 #[.int .i64 s, .int .i64 t, .int .i64 m] w fun e w' => e = .returned (.tuple #[.int .i64 v, .int .i64 0]) ∧ w = w' := by
  subst hv; exact Height_ok s t m w h0 h1 h2 h3 h4 h5
theorem in_is {A : Option Addr} {c n : Nat} {l : List (Int × Int)} {k : Int} {b : Bool} (hn : n = l.length) (hb : (l.any fun p => decide (p.1 ≤ k) && decide (k ≤ p.2)) = b) (w : World) (h : RowS w w.heap.size A l) (hl : l.length ≤ 1000000) :
    Calls Try.prog 22 #[.slice A n c, .int .i64 k] w fun e w' => e = .returned (.bool b) ∧ w = w' := by
  subst hn hb; exact in_any A c l k w h hl
theorem Windows_is' {s t night least : Int} {l : List (Int × Int)} {n : Nat} (hl : winL least s t night = l) (hn : l.length = n) (w : World) (h0 : 0 ≤ s) (h1 : s < 16) (h2 : 0 ≤ t) (h3 : t < 512) (h4 : 0 ≤ night) (h5 : night < 400) :
    Calls Try.prog 17 #[.int .i64 s, .int .i64 t, .int .i64 night, .int .i64 least] w fun e W' =>
      ∃ A c, e = .returned (.tuple #[.slice A n c, .int .i64 0]) ∧ RowS W' W'.heap.size A l ∧ Below w.heap.size w W' := by
  subst hn; exact Windows_is hl w h0 h1 h2 h3 h4 h5

set_option maxHeartbeats 8000000 in
set_option maxRecDepth 100000 in
theorem walk_lt (s t night lo hi : Int) (w : World) (h0 : 0 ≤ s) (h1 : s < 16) (h2 : 0 ≤ t) (h3 : t < 512) (h4 : 0 ≤ night) (h5 : night < 400) (hlt : lo < hi) :
    Calls Try.prog 8 #[.int .i64 s, .int .i64 t, .int .i64 night, .int .i64 lo, .int .i64 hi] w fun e w' => e = .returned (.bool true) ∧ Below w.heap.size w w' := by
  have hLen1 := fw_len lo s t night 96
  have hLen2 := fw_len hi s t night 96
  have hI := winL_inv lo s t night
  have hJ := winL_inv hi s t night
  have hA1 := winL_any lo s t night
  have hA2 := winL_any hi s t night
  obtain ⟨L, hL⟩ : ∃ L, winL lo s t night = L := ⟨_, rfl⟩
  obtain ⟨K, hK⟩ : ∃ K, winL hi s t night = K := ⟨_, rfl⟩
  rw [show fw lo s t night 96 = L from hL] at hLen1
  rw [show fw hi s t night 96 = K from hK] at hLen2
  rw [hL] at hI
  simp only [hL] at hA1
  rw [hK] at hJ
  have hW : ∀ p ∈ K, ∃ q ∈ L, q.1 ≤ p.1 ∧ p.2 ≤ q.2 := by rw [← hK, ← hL]; exact winL_within lo hi s t night (by omega)
  simp only [hK] at hA2
  have hbd := hI.bd
  have hord := List.pairwise_iff_getElem.1 hI.ord
  clear hI hJ
  obtain ⟨n, hn⟩ : ∃ n, L.length = n := ⟨_, rfl⟩
  obtain ⟨m, hm⟩ : ∃ m, K.length = m := ⟨_, rfl⟩
  rw [hn] at hLen1
  rw [hm] at hLen2
  have HL := hid hL
  have HK := hid hK
  have HN := hid hn
  have HM := hid hm
  have HA1 := hid hA1
  have HA2 := hid hA2
  have HW := hid hW
  have HBD := hid hbd
  have HORD := hid hord
  clear hL hK hn hm hA1 hA2 hW hbd hord
  go_enter Try.func8, Try.ntmps8
  go_wp2_with fail
  refine (head_any _).mono ?_
  rintro e w1 ⟨rfl, hb1⟩
  have HB1 := hid hb1
  clear hb1
  go_wp2_with fail
  refine (Windows_is' HL.out HN.out _ h0 h1 h2 h3 h4 h5).mono ?_
  rintro e w2 ⟨A, c, rfl, hR, hb2⟩
  have HR := hid hR
  have HB2 := hid (bl HB1.out hb2)
  clear hR hb2 HB1
  go_wp2_with fail
  refine (Windows_is' HK.out HM.out _ h0 h1 h2 h3 h4 h5).mono ?_
  rintro e w3 ⟨A', c', rfl, hR', hb3⟩
  have HR1 := hid (HR.out.call hb3)
  have HR2 := hid hR'
  have HB3 := hid (bl HB2.out hb3)
  clear hR' hb3 HB2 HR
  go_wp2_with fail
  go_loop [16] (fun i => ∃ k : Nat, k ≤ 96 ∧ i = .int .i64 k) (fun i => 96 - (intOf i).toNat)
  case atStart => exact ⟨0, Nat.zero_le _, rfl⟩
  case round =>
    obtain ⟨k, hk, rfl⟩ := hrel
    by_cases hkl : k < 96
    · obtain ⟨h, hh⟩ : ∃ h, ht s t (96 * night + (k : Int)) = h := ⟨_, rfl⟩
      have e1 := HA1.out k hkl
      have e2 := HA2.out k hkl
      rw [hh] at e1 e2
      have HH := hid hh
      have E1 := hid e1
      have E2 := hid e2
      clear hh e1 e2
      go_wp2_with fail
      refine (Height_is HH.out _ (by omega) (by omega) h0 h1 h2 h3).mono ?_
      rintro e w4 ⟨rfl, rfl⟩
      by_cases d1 : lo ≤ h
      · have E1t : Hid _ := hid (E1.out.trans (decide_eq_true d1))
        by_cases d2 : hi ≤ h
        · have E2t : Hid _ := hid (E2.out.trans (decide_eq_true d2))
          go_wp2_with fail
          refine (in_is HN.out.symm E1t.out _ HR1.out (by rw [HN.out]; omega)).mono ?_
          rintro e w4 ⟨rfl, rfl⟩
          go_wp2_with fail
          refine (in_is HM.out.symm E2t.out _ HR2.out (by rw [HM.out]; omega)).mono ?_
          rintro e w4 ⟨rfl, rfl⟩
          go_wp2_with fail
          refine (in_is HN.out.symm E1t.out _ HR1.out (by rw [HN.out]; omega)).mono ?_
          rintro e w4 ⟨rfl, rfl⟩
          go_wp2
          go_round
          case rel => exact ⟨k + 1, by omega, by go_num⟩
          case measure => simp [intOf]; omega
        · have E2f : Hid _ := hid (E2.out.trans (decide_eq_false d2))
          go_wp2_with fail
          refine (in_is HN.out.symm E1t.out _ HR1.out (by rw [HN.out]; omega)).mono ?_
          rintro e w4 ⟨rfl, rfl⟩
          go_wp2_with fail
          refine (in_is HM.out.symm E2f.out _ HR2.out (by rw [HM.out]; omega)).mono ?_
          rintro e w4 ⟨rfl, rfl⟩
          go_wp2
          go_round
          case rel => exact ⟨k + 1, by omega, by go_num⟩
          case measure => simp [intOf]; omega
      · have E1f : Hid _ := hid (E1.out.trans (decide_eq_false d1))
        have E2f : Hid _ := hid (E2.out.trans (decide_eq_false (by omega)))
        go_wp2_with fail
        refine (in_is HN.out.symm E1f.out _ HR1.out (by rw [HN.out]; omega)).mono ?_
        rintro e w4 ⟨rfl, rfl⟩
        go_wp2_with fail
        refine (in_is HM.out.symm E2f.out _ HR2.out (by rw [HM.out]; omega)).mono ?_
        rintro e w4 ⟨rfl, rfl⟩
        go_wp2
        go_round
        case rel => exact ⟨k + 1, by omega, by go_num⟩
        case measure => simp [intOf]; omega
    · obtain rfl : k = 96 := by omega
      go_wp2_with fail
      skip
      clear h0 h1 h2 h3 h4 h5 HA1 HA2
      go_loopw [19] (fun i wr => ∃ k m' : Nat, k ≤ n ∧ i = .int .i64 k ∧ wr = w3.drewN m') (fun i _ => n - (intOf i).toNat)
      case atStart => exact ⟨0, 0, Nat.zero_le _, rfl, rfl⟩
      case round =>
        obtain ⟨k, m', hk, rfl, rfl⟩ := hrel
        by_cases hlt : k < n
        · have hkl : k < L.length := by rw [HN.out]; exact hlt
          rcases HR1.out with hnil | ⟨b, rfl, hb, g⟩
          · have := HN.out; rw [hnil, List.length_nil] at this; omega
          obtain ⟨e1, f1⟩ := g k hkl
          have bd := HBD.out _ (List.getElem_mem hkl)
          rw [List.getElem?_eq_getElem hkl] at e1 f1
          simp only [Option.getD_some] at e1 f1
          by_cases hk0 : k = 0
          · subst hk0
            obtain ⟨p, hp⟩ : ∃ p, L[0] = p := ⟨_, rfl⟩
            rw [hp] at e1 f1 bd
            obtain ⟨p1, p2⟩ := p
            dsimp only at e1 f1 bd
            obtain ⟨b1, b2, b3⟩ := bd
            have b3 : p2 ≤ 95 := by omega
            have k1 : decide (p1 < 0) = false := decide_eq_false (by omega)
            have k2 : decide (p2 < p1) = false := decide_eq_false (by omega)
            have k3 : decide (95 < p2) = false := decide_eq_false (by omega)
            clear g hp
            go_wp2_with fail
            go_quiet (fail)
            go_wp2
            go_roundw
            case rel => exact ⟨1, _, by omega, by go_num, rfl⟩
            case measure => simp [intOf]; omega
          · obtain ⟨j, rfl⟩ : ∃ j, k = j + 1 := ⟨k - 1, by omega⟩
            have hjl : j < L.length := by omega
            obtain ⟨e3, f3⟩ := g j hjl
            have ord := HORD.out j (j + 1) hjl hkl (by omega)
            have bd' := HBD.out _ (List.getElem_mem hjl)
            rw [List.getElem?_eq_getElem hjl] at e3 f3
            simp only [Option.getD_some] at e3 f3
            obtain ⟨p, hp⟩ : ∃ p, L[j + 1] = p := ⟨_, rfl⟩
            obtain ⟨q, hq⟩ : ∃ q, L[j] = q := ⟨_, rfl⟩
            rw [hp] at e1 f1 bd ord
            rw [hq] at e3 f3 bd' ord
            obtain ⟨p1, p2⟩ := p
            obtain ⟨q1, q2⟩ := q
            dsimp only at e1 f1 bd e3 f3 ord bd'
            obtain ⟨b1, b2, b3⟩ := bd
            have b3 : p2 ≤ 95 := by omega
            have k1 : decide (p1 < 0) = false := decide_eq_false (by omega)
            have k2 : decide (p2 < p1) = false := decide_eq_false (by omega)
            have k3 : decide (95 < p2) = false := decide_eq_false (by omega)
            obtain ⟨c1, c2, c3⟩ := bd'
            have c3 : q2 ≤ 95 := by omega
            have k4 : decide (p1 ≤ q2 + 1) = false := decide_eq_false (by omega)
            clear g hp hq
            have ei : ((j + 1 : Nat) : Int) - 1 = (j : Int) := by omega
            go_wp2_with fail
            go_quiet (fail)
            go_wp2
            go_roundw
            case rel => exact ⟨j + 1 + 1, _, by omega, by go_num, rfl⟩
            case measure => simp [intOf]; omega
        · obtain rfl : k = n := by omega
          clear HBD HORD
          go_wp2_with fail
          have HS1 := hid (HR1.out.call (dN _ m'))
          have HS2 := hid (HR2.out.call (dN _ m'))
          have HB4 := hid (bl HB3.out (dN _ m'))
          clear HR1 HR2 HB3
          obtain ⟨w4, hw4⟩ : ∃ w4, w3.drewN m' = w4 := ⟨_, rfl⟩
          rw [hw4] at HS1 HS2 HB4 ⊢
          clear hw4
          skip
          go_loopw [20] (fun i wr => ∃ k m' : Nat, k ≤ m ∧ i = .int .i64 k ∧ wr = w4.drewN m') (fun i _ => m - (intOf i).toNat)
          case atStart => exact ⟨0, 0, Nat.zero_le _, rfl, rfl⟩
          case round =>
            obtain ⟨j, m', hj, rfl, rfl⟩ := hrel
            by_cases hjm : j < m
            · have hjl : j < K.length := by rw [HM.out]; exact hjm
              obtain ⟨q, hq, hq1⟩ := HW.out _ (List.getElem_mem hjl)
              rcases HS2.out with hnil | ⟨b', rfl, hb', g'⟩
              · have := HM.out; rw [hnil, List.length_nil] at this; omega
              rcases HS1.out with hnil | ⟨b, rfl, hb, g⟩
              · rw [hnil] at hq; exact absurd hq (by simp)
              obtain ⟨e1, f1⟩ := g' j hjl
              rw [List.getElem?_eq_getElem hjl] at e1 f1
              simp only [Option.getD_some] at e1 f1
              obtain ⟨p, hp⟩ : ∃ p, K[j] = p := ⟨_, rfl⟩
              rw [hp] at e1 f1 hq1
              obtain ⟨p1, p2⟩ := p
              dsimp only at e1 f1 hq1
              have HQ := hid (show (L.any fun q => decide (q.1 ≤ p1) && decide (p2 ≤ q.2)) = true by
                rw [List.any_eq_true]; exact ⟨q, hq, by simp [hq1]⟩)
              have HG := hid g
              clear g g' hp hq hq1
              go_wp2_with fail
              skip
              go_loopw [21, 22] (fun f i wr => ∃ (a m3 : Nat) (B : Bool), a ≤ k ∧ i = .int .i64 a ∧ f = .bool B ∧ wr = w4.drewN m3 ∧ Hid (((L.take a).any fun q => decide (q.1 ≤ p1) && decide (p2 ≤ q.2)) = B)) (fun _ i _ => k - (intOf i).toNat)
              case atStart => exact ⟨0, m', false, Nat.zero_le _, rfl, rfl, rfl, by simp [Hid]⟩
              case round =>
                obtain ⟨a, m3, B, ha, rfl, rfl, rfl, hB⟩ := hrel
                by_cases hak : a < k
                · have hal : a < L.length := by rw [HN.out]; exact hak
                  obtain ⟨e2, f2⟩ := HG.out a hal
                  rw [List.getElem?_eq_getElem hal] at e2 f2
                  simp only [Option.getD_some] at e2 f2
                  obtain ⟨r, hr⟩ : ∃ r, L[a] = r := ⟨_, rfl⟩
                  have HNX : Hid (((L.take (a + 1)).any fun q => decide (q.1 ≤ p1) && decide (p2 ≤ q.2)) = (B || (decide (r.1 ≤ p1) && decide (p2 ≤ r.2)))) := by
                    unfold Hid
                    rw [List.take_succ_eq_append_getElem hal, List.any_append, hB.out, hr]
                    simp
                  rw [hr] at e2 f2
                  obtain ⟨r1, r2⟩ := r
                  dsimp only at e2 f2
                  clear hr hB
                  cases B
                  · by_cases d1 : r1 ≤ p1
                    · by_cases d2 : p2 ≤ r2
                      · have HT : Hid _ := hid (HNX.out.trans (show _ = true by simp [d1, d2]))
                        go_wp2_with fail
                        go_quiet (fail)
                        go_wp2
                        go_roundw
                        case rel => exact ⟨a + 1, _, true, by omega, by go_num, rfl, rfl, HT⟩
                        case measure => simp [intOf]; omega
                      · have HT : Hid _ := hid (HNX.out.trans (show _ = false by simp [d2]))
                        have d2' : decide (p2 ≤ r2) = false := decide_eq_false d2
                        go_wp2_with fail
                        go_quiet (fail)
                        go_wp2
                        go_roundw
                        case rel => exact ⟨a + 1, _, false, by omega, by go_num, rfl, rfl, HT⟩
                        case measure => simp [intOf]; omega
                    · have HT : Hid _ := hid (HNX.out.trans (show _ = false by simp [d1]))
                      have d1' : decide (r1 ≤ p1) = false := decide_eq_false d1
                      go_wp2_with fail
                      go_quiet (fail)
                      go_wp2
                      go_roundw
                      case rel => exact ⟨a + 1, _, false, by omega, by go_num, rfl, rfl, HT⟩
                      case measure => simp [intOf]; omega
                  · have HT : Hid _ := hid (HNX.out.trans (show _ = true by simp))
                    go_wp2_with fail
                    go_quiet (fail)
                    go_wp2
                    go_roundw
                    case rel => exact ⟨a + 1, _, true, by omega, by go_num, rfl, rfl, HT⟩
                    case measure => simp [intOf]; omega
                · obtain rfl : a = k := by omega
                  have hh := hB.out
                  rw [List.take_of_length_le (by rw [HN.out]; exact Nat.le_refl _), HQ.out] at hh
                  subst hh
                  clear hB
                  go_wp2
                  go_roundw
                  case rel => exact ⟨j + 1, _, by omega, by go_num, rfl⟩
                  case measure => simp [intOf]; omega
            · obtain rfl : j = m := by omega
              go_wp2
              go_ret
              exact ⟨rfl, bl HB4.out (dN _ _)⟩

set_option maxHeartbeats 8000000 in
set_option maxRecDepth 100000 in
theorem walk_eq (s t night lo : Int) (w : World) (h0 : 0 ≤ s) (h1 : s < 16) (h2 : 0 ≤ t) (h3 : t < 512) (h4 : 0 ≤ night) (h5 : night < 400) :
    Calls Try.prog 8 #[.int .i64 s, .int .i64 t, .int .i64 night, .int .i64 lo, .int .i64 lo] w fun e w' => e = .returned (.bool true) ∧ Below w.heap.size w w' := by
  have hLen1 := fw_len lo s t night 96
  have hLen2 := fw_len lo s t night 96
  have hI := winL_inv lo s t night
  have hJ := winL_inv lo s t night
  have hA1 := winL_any lo s t night
  have hA2 := winL_any lo s t night
  obtain ⟨L, hL⟩ : ∃ L, winL lo s t night = L := ⟨_, rfl⟩
  obtain ⟨K, hK⟩ : ∃ K, winL lo s t night = K := ⟨_, rfl⟩
  rw [show fw lo s t night 96 = L from hL] at hLen1
  rw [show fw lo s t night 96 = K from hK] at hLen2
  rw [hL] at hI
  simp only [hL] at hA1
  rw [hK] at hJ
  have hW : ∀ p ∈ K, ∃ q ∈ L, q.1 ≤ p.1 ∧ p.2 ≤ q.2 := by rw [← hK, ← hL]; exact winL_within lo lo s t night (by omega)
  simp only [hK] at hA2
  have hbd := hI.bd
  have hord := List.pairwise_iff_getElem.1 hI.ord
  clear hI hJ
  obtain ⟨n, hn⟩ : ∃ n, L.length = n := ⟨_, rfl⟩
  obtain ⟨m, hm⟩ : ∃ m, K.length = m := ⟨_, rfl⟩
  rw [hn] at hLen1
  rw [hm] at hLen2
  have HL := hid hL
  have HK := hid hK
  have HN := hid hn
  have HM := hid hm
  have HA1 := hid hA1
  have HA2 := hid hA2
  have HW := hid hW
  have HBD := hid hbd
  have HORD := hid hord
  clear hL hK hn hm hA1 hA2 hW hbd hord
  go_enter Try.func8, Try.ntmps8
  go_wp2_with fail
  refine (head_any _).mono ?_
  rintro e w1 ⟨rfl, hb1⟩
  have HB1 := hid hb1
  clear hb1
  go_wp2_with fail
  refine (Windows_is' HL.out HN.out _ h0 h1 h2 h3 h4 h5).mono ?_
  rintro e w2 ⟨A, c, rfl, hR, hb2⟩
  have HR := hid hR
  have HB2 := hid (bl HB1.out hb2)
  clear hR hb2 HB1
  go_wp2_with fail
  refine (Windows_is' HK.out HM.out _ h0 h1 h2 h3 h4 h5).mono ?_
  rintro e w3 ⟨A', c', rfl, hR', hb3⟩
  have HR1 := hid (HR.out.call hb3)
  have HR2 := hid hR'
  have HB3 := hid (bl HB2.out hb3)
  clear hR' hb3 HB2 HR
  go_wp2_with fail
  go_loop [16] (fun i => ∃ k : Nat, k ≤ 96 ∧ i = .int .i64 k) (fun i => 96 - (intOf i).toNat)
  case atStart => exact ⟨0, Nat.zero_le _, rfl⟩
  case round =>
    obtain ⟨k, hk, rfl⟩ := hrel
    by_cases hkl : k < 96
    · obtain ⟨h, hh⟩ : ∃ h, ht s t (96 * night + (k : Int)) = h := ⟨_, rfl⟩
      have e1 := HA1.out k hkl
      have e2 := HA2.out k hkl
      rw [hh] at e1 e2
      have HH := hid hh
      have E1 := hid e1
      have E2 := hid e2
      clear hh e1 e2
      go_wp2_with fail
      refine (Height_is HH.out _ (by omega) (by omega) h0 h1 h2 h3).mono ?_
      rintro e w4 ⟨rfl, rfl⟩
      by_cases d1 : lo ≤ h
      · have E1t : Hid _ := hid (E1.out.trans (decide_eq_true d1))
        by_cases d2 : lo ≤ h
        · have E2t : Hid _ := hid (E2.out.trans (decide_eq_true d2))
          go_wp2_with fail
          refine (in_is HN.out.symm E1t.out _ HR1.out (by rw [HN.out]; omega)).mono ?_
          rintro e w4 ⟨rfl, rfl⟩
          go_wp2_with fail
          refine (in_is HM.out.symm E2t.out _ HR2.out (by rw [HM.out]; omega)).mono ?_
          rintro e w4 ⟨rfl, rfl⟩
          go_wp2_with fail
          refine (in_is HN.out.symm E1t.out _ HR1.out (by rw [HN.out]; omega)).mono ?_
          rintro e w4 ⟨rfl, rfl⟩
          go_wp2
          go_round
          case rel => exact ⟨k + 1, by omega, by go_num⟩
          case measure => simp [intOf]; omega
        · exact absurd d1 d2
      · have E1f : Hid _ := hid (E1.out.trans (decide_eq_false d1))
        have E2f : Hid _ := hid (E2.out.trans (decide_eq_false (by omega)))
        go_wp2_with fail
        refine (in_is HN.out.symm E1f.out _ HR1.out (by rw [HN.out]; omega)).mono ?_
        rintro e w4 ⟨rfl, rfl⟩
        go_wp2_with fail
        refine (in_is HM.out.symm E2f.out _ HR2.out (by rw [HM.out]; omega)).mono ?_
        rintro e w4 ⟨rfl, rfl⟩
        go_wp2
        go_round
        case rel => exact ⟨k + 1, by omega, by go_num⟩
        case measure => simp [intOf]; omega
    · obtain rfl : k = 96 := by omega
      go_wp2_with fail
      skip
      clear h0 h1 h2 h3 h4 h5 HA1 HA2
      go_loopw [19] (fun i wr => ∃ k m' : Nat, k ≤ n ∧ i = .int .i64 k ∧ wr = w3.drewN m') (fun i _ => n - (intOf i).toNat)
      case atStart => exact ⟨0, 0, Nat.zero_le _, rfl, rfl⟩
      case round =>
        obtain ⟨k, m', hk, rfl, rfl⟩ := hrel
        by_cases hlt : k < n
        · have hkl : k < L.length := by rw [HN.out]; exact hlt
          rcases HR1.out with hnil | ⟨b, rfl, hb, g⟩
          · have := HN.out; rw [hnil, List.length_nil] at this; omega
          obtain ⟨e1, f1⟩ := g k hkl
          have bd := HBD.out _ (List.getElem_mem hkl)
          rw [List.getElem?_eq_getElem hkl] at e1 f1
          simp only [Option.getD_some] at e1 f1
          by_cases hk0 : k = 0
          · subst hk0
            obtain ⟨p, hp⟩ : ∃ p, L[0] = p := ⟨_, rfl⟩
            rw [hp] at e1 f1 bd
            obtain ⟨p1, p2⟩ := p
            dsimp only at e1 f1 bd
            obtain ⟨b1, b2, b3⟩ := bd
            have b3 : p2 ≤ 95 := by omega
            have k1 : decide (p1 < 0) = false := decide_eq_false (by omega)
            have k2 : decide (p2 < p1) = false := decide_eq_false (by omega)
            have k3 : decide (95 < p2) = false := decide_eq_false (by omega)
            clear g hp
            go_wp2_with fail
            go_quiet (fail)
            go_wp2
            go_roundw
            case rel => exact ⟨1, _, by omega, by go_num, rfl⟩
            case measure => simp [intOf]; omega
          · obtain ⟨j, rfl⟩ : ∃ j, k = j + 1 := ⟨k - 1, by omega⟩
            have hjl : j < L.length := by omega
            obtain ⟨e3, f3⟩ := g j hjl
            have ord := HORD.out j (j + 1) hjl hkl (by omega)
            have bd' := HBD.out _ (List.getElem_mem hjl)
            rw [List.getElem?_eq_getElem hjl] at e3 f3
            simp only [Option.getD_some] at e3 f3
            obtain ⟨p, hp⟩ : ∃ p, L[j + 1] = p := ⟨_, rfl⟩
            obtain ⟨q, hq⟩ : ∃ q, L[j] = q := ⟨_, rfl⟩
            rw [hp] at e1 f1 bd ord
            rw [hq] at e3 f3 bd' ord
            obtain ⟨p1, p2⟩ := p
            obtain ⟨q1, q2⟩ := q
            dsimp only at e1 f1 bd e3 f3 ord bd'
            obtain ⟨b1, b2, b3⟩ := bd
            have b3 : p2 ≤ 95 := by omega
            have k1 : decide (p1 < 0) = false := decide_eq_false (by omega)
            have k2 : decide (p2 < p1) = false := decide_eq_false (by omega)
            have k3 : decide (95 < p2) = false := decide_eq_false (by omega)
            obtain ⟨c1, c2, c3⟩ := bd'
            have c3 : q2 ≤ 95 := by omega
            have k4 : decide (p1 ≤ q2 + 1) = false := decide_eq_false (by omega)
            clear g hp hq
            have ei : ((j + 1 : Nat) : Int) - 1 = (j : Int) := by omega
            go_wp2_with fail
            go_quiet (fail)
            go_wp2
            go_roundw
            case rel => exact ⟨j + 1 + 1, _, by omega, by go_num, rfl⟩
            case measure => simp [intOf]; omega
        · obtain rfl : k = n := by omega
          clear HBD HORD
          go_wp2_with fail
          have HS1 := hid (HR1.out.call (dN _ m'))
          have HS2 := hid (HR2.out.call (dN _ m'))
          have HB4 := hid (bl HB3.out (dN _ m'))
          clear HR1 HR2 HB3
          obtain ⟨w4, hw4⟩ : ∃ w4, w3.drewN m' = w4 := ⟨_, rfl⟩
          rw [hw4] at HS1 HS2 HB4 ⊢
          clear hw4
          skip
          go_loopw [20] (fun i wr => ∃ k m' : Nat, k ≤ m ∧ i = .int .i64 k ∧ wr = w4.drewN m') (fun i _ => m - (intOf i).toNat)
          case atStart => exact ⟨0, 0, Nat.zero_le _, rfl, rfl⟩
          case round =>
            obtain ⟨j, m', hj, rfl, rfl⟩ := hrel
            by_cases hjm : j < m
            · have hjl : j < K.length := by rw [HM.out]; exact hjm
              obtain ⟨q, hq, hq1⟩ := HW.out _ (List.getElem_mem hjl)
              rcases HS2.out with hnil | ⟨b', rfl, hb', g'⟩
              · have := HM.out; rw [hnil, List.length_nil] at this; omega
              rcases HS1.out with hnil | ⟨b, rfl, hb, g⟩
              · rw [hnil] at hq; exact absurd hq (by simp)
              obtain ⟨e1, f1⟩ := g' j hjl
              rw [List.getElem?_eq_getElem hjl] at e1 f1
              simp only [Option.getD_some] at e1 f1
              obtain ⟨p, hp⟩ : ∃ p, K[j] = p := ⟨_, rfl⟩
              rw [hp] at e1 f1 hq1
              obtain ⟨p1, p2⟩ := p
              dsimp only at e1 f1 hq1
              have HQ := hid (show (L.any fun q => decide (q.1 ≤ p1) && decide (p2 ≤ q.2)) = true by
                rw [List.any_eq_true]; exact ⟨q, hq, by simp [hq1]⟩)
              have HG := hid g
              clear g g' hp hq hq1
              go_wp2_with fail
              skip
              go_loopw [21, 22] (fun f i wr => ∃ (a m3 : Nat) (B : Bool), a ≤ k ∧ i = .int .i64 a ∧ f = .bool B ∧ wr = w4.drewN m3 ∧ Hid (((L.take a).any fun q => decide (q.1 ≤ p1) && decide (p2 ≤ q.2)) = B)) (fun _ i _ => k - (intOf i).toNat)
              case atStart => exact ⟨0, m', false, Nat.zero_le _, rfl, rfl, rfl, by simp [Hid]⟩
              case round =>
                obtain ⟨a, m3, B, ha, rfl, rfl, rfl, hB⟩ := hrel
                by_cases hak : a < k
                · have hal : a < L.length := by rw [HN.out]; exact hak
                  obtain ⟨e2, f2⟩ := HG.out a hal
                  rw [List.getElem?_eq_getElem hal] at e2 f2
                  simp only [Option.getD_some] at e2 f2
                  obtain ⟨r, hr⟩ : ∃ r, L[a] = r := ⟨_, rfl⟩
                  have HNX : Hid (((L.take (a + 1)).any fun q => decide (q.1 ≤ p1) && decide (p2 ≤ q.2)) = (B || (decide (r.1 ≤ p1) && decide (p2 ≤ r.2)))) := by
                    unfold Hid
                    rw [List.take_succ_eq_append_getElem hal, List.any_append, hB.out, hr]
                    simp
                  rw [hr] at e2 f2
                  obtain ⟨r1, r2⟩ := r
                  dsimp only at e2 f2
                  clear hr hB
                  cases B
                  · by_cases d1 : r1 ≤ p1
                    · by_cases d2 : p2 ≤ r2
                      · have HT : Hid _ := hid (HNX.out.trans (show _ = true by simp [d1, d2]))
                        go_wp2_with fail
                        go_quiet (fail)
                        go_wp2
                        go_roundw
                        case rel => exact ⟨a + 1, _, true, by omega, by go_num, rfl, rfl, HT⟩
                        case measure => simp [intOf]; omega
                      · have HT : Hid _ := hid (HNX.out.trans (show _ = false by simp [d2]))
                        have d2' : decide (p2 ≤ r2) = false := decide_eq_false d2
                        go_wp2_with fail
                        go_quiet (fail)
                        go_wp2
                        go_roundw
                        case rel => exact ⟨a + 1, _, false, by omega, by go_num, rfl, rfl, HT⟩
                        case measure => simp [intOf]; omega
                    · have HT : Hid _ := hid (HNX.out.trans (show _ = false by simp [d1]))
                      have d1' : decide (r1 ≤ p1) = false := decide_eq_false d1
                      go_wp2_with fail
                      go_quiet (fail)
                      go_wp2
                      go_roundw
                      case rel => exact ⟨a + 1, _, false, by omega, by go_num, rfl, rfl, HT⟩
                      case measure => simp [intOf]; omega
                  · have HT : Hid _ := hid (HNX.out.trans (show _ = true by simp))
                    go_wp2_with fail
                    go_quiet (fail)
                    go_wp2
                    go_roundw
                    case rel => exact ⟨a + 1, _, true, by omega, by go_num, rfl, rfl, HT⟩
                    case measure => simp [intOf]; omega
                · obtain rfl : a = k := by omega
                  have hh := hB.out
                  rw [List.take_of_length_le (by rw [HN.out]; exact Nat.le_refl _), HQ.out] at hh
                  subst hh
                  clear hB
                  go_wp2
                  go_roundw
                  case rel => exact ⟨j + 1, _, by omega, by go_num, rfl⟩
                  case measure => simp [intOf]; omega
            · obtain rfl : j = m := by omega
              go_wp2
              go_ret
              exact ⟨rfl, bl HB4.out (dN _ _)⟩

set_option maxHeartbeats 8000000 in
set_option maxRecDepth 100000 in
theorem walk_gt (s t night lo hi : Int) (w : World) (h0 : 0 ≤ s) (h1 : s < 16) (h2 : 0 ≤ t) (h3 : t < 512) (h4 : 0 ≤ night) (h5 : night < 400) (hlt : lo < hi) :
    Calls Try.prog 8 #[.int .i64 s, .int .i64 t, .int .i64 night, .int .i64 hi, .int .i64 lo] w fun e w' => e = .returned (.bool true) ∧ Below w.heap.size w w' := by
  have hLen1 := fw_len lo s t night 96
  have hLen2 := fw_len hi s t night 96
  have hI := winL_inv lo s t night
  have hJ := winL_inv hi s t night
  have hA1 := winL_any lo s t night
  have hA2 := winL_any hi s t night
  obtain ⟨L, hL⟩ : ∃ L, winL lo s t night = L := ⟨_, rfl⟩
  obtain ⟨K, hK⟩ : ∃ K, winL hi s t night = K := ⟨_, rfl⟩
  rw [show fw lo s t night 96 = L from hL] at hLen1
  rw [show fw hi s t night 96 = K from hK] at hLen2
  rw [hL] at hI
  simp only [hL] at hA1
  rw [hK] at hJ
  have hW : ∀ p ∈ K, ∃ q ∈ L, q.1 ≤ p.1 ∧ p.2 ≤ q.2 := by rw [← hK, ← hL]; exact winL_within lo hi s t night (by omega)
  simp only [hK] at hA2
  have hbd := hI.bd
  have hord := List.pairwise_iff_getElem.1 hI.ord
  clear hI hJ
  obtain ⟨n, hn⟩ : ∃ n, L.length = n := ⟨_, rfl⟩
  obtain ⟨m, hm⟩ : ∃ m, K.length = m := ⟨_, rfl⟩
  rw [hn] at hLen1
  rw [hm] at hLen2
  have HL := hid hL
  have HK := hid hK
  have HN := hid hn
  have HM := hid hm
  have HA1 := hid hA1
  have HA2 := hid hA2
  have HW := hid hW
  have HBD := hid hbd
  have HORD := hid hord
  clear hL hK hn hm hA1 hA2 hW hbd hord
  go_enter Try.func8, Try.ntmps8
  go_wp2_with fail
  refine (head_any _).mono ?_
  rintro e w1 ⟨rfl, hb1⟩
  have HB1 := hid hb1
  clear hb1
  go_wp2_with fail
  refine (Windows_is' HL.out HN.out _ h0 h1 h2 h3 h4 h5).mono ?_
  rintro e w2 ⟨A, c, rfl, hR, hb2⟩
  have HR := hid hR
  have HB2 := hid (bl HB1.out hb2)
  clear hR hb2 HB1
  go_wp2_with fail
  refine (Windows_is' HK.out HM.out _ h0 h1 h2 h3 h4 h5).mono ?_
  rintro e w3 ⟨A', c', rfl, hR', hb3⟩
  have HR1 := hid (HR.out.call hb3)
  have HR2 := hid hR'
  have HB3 := hid (bl HB2.out hb3)
  clear hR' hb3 HB2 HR
  go_wp2_with fail
  go_loop [16] (fun i => ∃ k : Nat, k ≤ 96 ∧ i = .int .i64 k) (fun i => 96 - (intOf i).toNat)
  case atStart => exact ⟨0, Nat.zero_le _, rfl⟩
  case round =>
    obtain ⟨k, hk, rfl⟩ := hrel
    by_cases hkl : k < 96
    · obtain ⟨h, hh⟩ : ∃ h, ht s t (96 * night + (k : Int)) = h := ⟨_, rfl⟩
      have e1 := HA1.out k hkl
      have e2 := HA2.out k hkl
      rw [hh] at e1 e2
      have HH := hid hh
      have E1 := hid e1
      have E2 := hid e2
      clear hh e1 e2
      go_wp2_with fail
      refine (Height_is HH.out _ (by omega) (by omega) h0 h1 h2 h3).mono ?_
      rintro e w4 ⟨rfl, rfl⟩
      by_cases d1 : lo ≤ h
      · have E1t : Hid _ := hid (E1.out.trans (decide_eq_true d1))
        by_cases d2 : hi ≤ h
        · have E2t : Hid _ := hid (E2.out.trans (decide_eq_true d2))
          go_wp2_with fail
          refine (in_is HN.out.symm E1t.out _ HR1.out (by rw [HN.out]; omega)).mono ?_
          rintro e w4 ⟨rfl, rfl⟩
          go_wp2_with fail
          refine (in_is HM.out.symm E2t.out _ HR2.out (by rw [HM.out]; omega)).mono ?_
          rintro e w4 ⟨rfl, rfl⟩
          go_wp2_with fail
          refine (in_is HN.out.symm E1t.out _ HR1.out (by rw [HN.out]; omega)).mono ?_
          rintro e w4 ⟨rfl, rfl⟩
          go_wp2
          go_round
          case rel => exact ⟨k + 1, by omega, by go_num⟩
          case measure => simp [intOf]; omega
        · have E2f : Hid _ := hid (E2.out.trans (decide_eq_false d2))
          go_wp2_with fail
          refine (in_is HN.out.symm E1t.out _ HR1.out (by rw [HN.out]; omega)).mono ?_
          rintro e w4 ⟨rfl, rfl⟩
          go_wp2_with fail
          refine (in_is HM.out.symm E2f.out _ HR2.out (by rw [HM.out]; omega)).mono ?_
          rintro e w4 ⟨rfl, rfl⟩
          go_wp2
          go_round
          case rel => exact ⟨k + 1, by omega, by go_num⟩
          case measure => simp [intOf]; omega
      · have E1f : Hid _ := hid (E1.out.trans (decide_eq_false d1))
        have E2f : Hid _ := hid (E2.out.trans (decide_eq_false (by omega)))
        go_wp2_with fail
        refine (in_is HN.out.symm E1f.out _ HR1.out (by rw [HN.out]; omega)).mono ?_
        rintro e w4 ⟨rfl, rfl⟩
        go_wp2_with fail
        refine (in_is HM.out.symm E2f.out _ HR2.out (by rw [HM.out]; omega)).mono ?_
        rintro e w4 ⟨rfl, rfl⟩
        go_wp2
        go_round
        case rel => exact ⟨k + 1, by omega, by go_num⟩
        case measure => simp [intOf]; omega
    · obtain rfl : k = 96 := by omega
      go_wp2_with fail
      skip
      clear h0 h1 h2 h3 h4 h5 HA1 HA2
      go_loopw [19] (fun i wr => ∃ k m' : Nat, k ≤ n ∧ i = .int .i64 k ∧ wr = w3.drewN m') (fun i _ => n - (intOf i).toNat)
      case atStart => exact ⟨0, 0, Nat.zero_le _, rfl, rfl⟩
      case round =>
        obtain ⟨k, m', hk, rfl, rfl⟩ := hrel
        by_cases hlt : k < n
        · have hkl : k < L.length := by rw [HN.out]; exact hlt
          rcases HR1.out with hnil | ⟨b, rfl, hb, g⟩
          · have := HN.out; rw [hnil, List.length_nil] at this; omega
          obtain ⟨e1, f1⟩ := g k hkl
          have bd := HBD.out _ (List.getElem_mem hkl)
          rw [List.getElem?_eq_getElem hkl] at e1 f1
          simp only [Option.getD_some] at e1 f1
          by_cases hk0 : k = 0
          · subst hk0
            obtain ⟨p, hp⟩ : ∃ p, L[0] = p := ⟨_, rfl⟩
            rw [hp] at e1 f1 bd
            obtain ⟨p1, p2⟩ := p
            dsimp only at e1 f1 bd
            obtain ⟨b1, b2, b3⟩ := bd
            have b3 : p2 ≤ 95 := by omega
            have k1 : decide (p1 < 0) = false := decide_eq_false (by omega)
            have k2 : decide (p2 < p1) = false := decide_eq_false (by omega)
            have k3 : decide (95 < p2) = false := decide_eq_false (by omega)
            clear g hp
            go_wp2_with fail
            go_quiet (fail)
            go_wp2
            go_roundw
            case rel => exact ⟨1, _, by omega, by go_num, rfl⟩
            case measure => simp [intOf]; omega
          · obtain ⟨j, rfl⟩ : ∃ j, k = j + 1 := ⟨k - 1, by omega⟩
            have hjl : j < L.length := by omega
            obtain ⟨e3, f3⟩ := g j hjl
            have ord := HORD.out j (j + 1) hjl hkl (by omega)
            have bd' := HBD.out _ (List.getElem_mem hjl)
            rw [List.getElem?_eq_getElem hjl] at e3 f3
            simp only [Option.getD_some] at e3 f3
            obtain ⟨p, hp⟩ : ∃ p, L[j + 1] = p := ⟨_, rfl⟩
            obtain ⟨q, hq⟩ : ∃ q, L[j] = q := ⟨_, rfl⟩
            rw [hp] at e1 f1 bd ord
            rw [hq] at e3 f3 bd' ord
            obtain ⟨p1, p2⟩ := p
            obtain ⟨q1, q2⟩ := q
            dsimp only at e1 f1 bd e3 f3 ord bd'
            obtain ⟨b1, b2, b3⟩ := bd
            have b3 : p2 ≤ 95 := by omega
            have k1 : decide (p1 < 0) = false := decide_eq_false (by omega)
            have k2 : decide (p2 < p1) = false := decide_eq_false (by omega)
            have k3 : decide (95 < p2) = false := decide_eq_false (by omega)
            obtain ⟨c1, c2, c3⟩ := bd'
            have c3 : q2 ≤ 95 := by omega
            have k4 : decide (p1 ≤ q2 + 1) = false := decide_eq_false (by omega)
            clear g hp hq
            have ei : ((j + 1 : Nat) : Int) - 1 = (j : Int) := by omega
            go_wp2_with fail
            go_quiet (fail)
            go_wp2
            go_roundw
            case rel => exact ⟨j + 1 + 1, _, by omega, by go_num, rfl⟩
            case measure => simp [intOf]; omega
        · obtain rfl : k = n := by omega
          clear HBD HORD
          go_wp2_with fail
          have HS1 := hid (HR1.out.call (dN _ m'))
          have HS2 := hid (HR2.out.call (dN _ m'))
          have HB4 := hid (bl HB3.out (dN _ m'))
          clear HR1 HR2 HB3
          obtain ⟨w4, hw4⟩ : ∃ w4, w3.drewN m' = w4 := ⟨_, rfl⟩
          rw [hw4] at HS1 HS2 HB4 ⊢
          clear hw4
          skip
          go_loopw [20] (fun i wr => ∃ k m' : Nat, k ≤ m ∧ i = .int .i64 k ∧ wr = w4.drewN m') (fun i _ => m - (intOf i).toNat)
          case atStart => exact ⟨0, 0, Nat.zero_le _, rfl, rfl⟩
          case round =>
            obtain ⟨j, m', hj, rfl, rfl⟩ := hrel
            by_cases hjm : j < m
            · have hjl : j < K.length := by rw [HM.out]; exact hjm
              obtain ⟨q, hq, hq1⟩ := HW.out _ (List.getElem_mem hjl)
              rcases HS2.out with hnil | ⟨b', rfl, hb', g'⟩
              · have := HM.out; rw [hnil, List.length_nil] at this; omega
              rcases HS1.out with hnil | ⟨b, rfl, hb, g⟩
              · rw [hnil] at hq; exact absurd hq (by simp)
              obtain ⟨e1, f1⟩ := g' j hjl
              rw [List.getElem?_eq_getElem hjl] at e1 f1
              simp only [Option.getD_some] at e1 f1
              obtain ⟨p, hp⟩ : ∃ p, K[j] = p := ⟨_, rfl⟩
              rw [hp] at e1 f1 hq1
              obtain ⟨p1, p2⟩ := p
              dsimp only at e1 f1 hq1
              have HQ := hid (show (L.any fun q => decide (q.1 ≤ p1) && decide (p2 ≤ q.2)) = true by
                rw [List.any_eq_true]; exact ⟨q, hq, by simp [hq1]⟩)
              have HG := hid g
              clear g g' hp hq hq1
              go_wp2_with fail
              skip
              go_loopw [21, 22] (fun f i wr => ∃ (a m3 : Nat) (B : Bool), a ≤ k ∧ i = .int .i64 a ∧ f = .bool B ∧ wr = w4.drewN m3 ∧ Hid (((L.take a).any fun q => decide (q.1 ≤ p1) && decide (p2 ≤ q.2)) = B)) (fun _ i _ => k - (intOf i).toNat)
              case atStart => exact ⟨0, m', false, Nat.zero_le _, rfl, rfl, rfl, by simp [Hid]⟩
              case round =>
                obtain ⟨a, m3, B, ha, rfl, rfl, rfl, hB⟩ := hrel
                by_cases hak : a < k
                · have hal : a < L.length := by rw [HN.out]; exact hak
                  obtain ⟨e2, f2⟩ := HG.out a hal
                  rw [List.getElem?_eq_getElem hal] at e2 f2
                  simp only [Option.getD_some] at e2 f2
                  obtain ⟨r, hr⟩ : ∃ r, L[a] = r := ⟨_, rfl⟩
                  have HNX : Hid (((L.take (a + 1)).any fun q => decide (q.1 ≤ p1) && decide (p2 ≤ q.2)) = (B || (decide (r.1 ≤ p1) && decide (p2 ≤ r.2)))) := by
                    unfold Hid
                    rw [List.take_succ_eq_append_getElem hal, List.any_append, hB.out, hr]
                    simp
                  rw [hr] at e2 f2
                  obtain ⟨r1, r2⟩ := r
                  dsimp only at e2 f2
                  clear hr hB
                  cases B
                  · by_cases d1 : r1 ≤ p1
                    · by_cases d2 : p2 ≤ r2
                      · have HT : Hid _ := hid (HNX.out.trans (show _ = true by simp [d1, d2]))
                        go_wp2_with fail
                        go_quiet (fail)
                        go_wp2
                        go_roundw
                        case rel => exact ⟨a + 1, _, true, by omega, by go_num, rfl, rfl, HT⟩
                        case measure => simp [intOf]; omega
                      · have HT : Hid _ := hid (HNX.out.trans (show _ = false by simp [d2]))
                        have d2' : decide (p2 ≤ r2) = false := decide_eq_false d2
                        go_wp2_with fail
                        go_quiet (fail)
                        go_wp2
                        go_roundw
                        case rel => exact ⟨a + 1, _, false, by omega, by go_num, rfl, rfl, HT⟩
                        case measure => simp [intOf]; omega
                    · have HT : Hid _ := hid (HNX.out.trans (show _ = false by simp [d1]))
                      have d1' : decide (r1 ≤ p1) = false := decide_eq_false d1
                      go_wp2_with fail
                      go_quiet (fail)
                      go_wp2
                      go_roundw
                      case rel => exact ⟨a + 1, _, false, by omega, by go_num, rfl, rfl, HT⟩
                      case measure => simp [intOf]; omega
                  · have HT : Hid _ := hid (HNX.out.trans (show _ = true by simp))
                    go_wp2_with fail
                    go_quiet (fail)
                    go_wp2
                    go_roundw
                    case rel => exact ⟨a + 1, _, true, by omega, by go_num, rfl, rfl, HT⟩
                    case measure => simp [intOf]; omega
                · obtain rfl : a = k := by omega
                  have hh := hB.out
                  rw [List.take_of_length_le (by rw [HN.out]; exact Nat.le_refl _), HQ.out] at hh
                  subst hh
                  clear hB
                  go_wp2
                  go_roundw
                  case rel => exact ⟨j + 1, _, by omega, by go_num, rfl⟩
                  case measure => simp [intOf]; omega
            · obtain rfl : j = m := by omega
              go_wp2
              go_ret
              exact ⟨rfl, bl HB4.out (dN _ _)⟩

set_option maxHeartbeats 8000000 in
set_option maxRecDepth 100000 in
theorem walk_err (s t night one two : Int) (w : World) (h : ¬ (0 ≤ s ∧ s < 16 ∧ 0 ≤ t ∧ t < 512 ∧ 0 ≤ night ∧ night < 400)) :
    Calls Try.prog 8 #[.int .i64 s, .int .i64 t, .int .i64 night, .int .i64 one, .int .i64 two] w fun e w' => e = .returned (.bool true) ∧ Below w.heap.size w w' := by
  have H := hid h
  clear h
  have HH : ∀ k : Int, Hid (∀ w, Calls Try.prog 17 #[.int .i64 s, .int .i64 t, .int .i64 night, .int .i64 k] w fun e W' => e = .returned (.tuple #[.slice none 0 0, .int .i64 1]) ∧ Below w.heap.size w W') := fun k => hid fun w => Windows_err s t night k w H.out
  rcases Int.lt_trichotomy one two with hlt | hlt | hlt
  case' inr.inl => subst hlt
  all_goals
    go_enter Try.func8, Try.ntmps8
    go_wp2_with fail
    refine (head_any _).mono ?_
    rintro e w1 ⟨rfl, hb1⟩
    have HB1 := hid hb1
    clear hb1
    go_wp2_with fail
    refine ((HH _).out _).mono ?_
    rintro e w2 ⟨rfl, hb2⟩
    have HB2 := hid (bl HB1.out hb2)
    clear hb2 HB1
    go_wp2_with fail
    refine ((HH _).out _).mono ?_
    rintro e w3 ⟨rfl, hb3⟩
    have HB3 := hid (bl HB2.out hb3)
    clear hb3 HB2
    go_wp2
    go_ret
    exact ⟨rfl, HB3.out⟩
theorem walk (a0 : Int) (_w0 : (Lit.int .i64 a0).wf = true) (a1 : Int) (_w1 : (Lit.int .i64 a1).wf = true) (a2 : Int) (_w2 : (Lit.int .i64 a2).wf = true) (a3 : Int) (_w3 : (Lit.int .i64 a3).wf = true) (a4 : Int) (_w4 : (Lit.int .i64 a4).wf = true) (w : World) :
    Calls Try.prog 8 #[.int .i64 a0, .int .i64 a1, .int .i64 a2, .int .i64 a3, .int .i64 a4] w fun e w' => e = .returned (.bool true) ∧ Below w.heap.size w w' := by
  by_cases h : 0 ≤ a0 ∧ a0 < 16 ∧ 0 ≤ a1 ∧ a1 < 512 ∧ 0 ≤ a2 ∧ a2 < 400
  · obtain ⟨h0, h1, h2, h3, h4, h5⟩ := h
    rcases Int.lt_trichotomy a3 a4 with hlt | hlt | hlt
    · exact walk_lt a0 a1 a2 a3 a4 w h0 h1 h2 h3 h4 h5 hlt
    · subst hlt
      exact walk_eq a0 a1 a2 a3 w h0 h1 h2 h3 h4 h5
    · exact walk_gt a0 a1 a2 a4 a3 w h0 h1 h2 h3 h4 h5 hlt
  · exact walk_err a0 a1 a2 a3 a4 w h

theorem own : ownKnob Try.prog.godebug = none := by kernel_rfl
theorem laidOut : laidOutB Try.prog = true := by kernel_rfl
set_option maxRecDepth 100000 in
theorem lifted (os : Os) (started : os.Started) (H : Type) (enc : TypeId × Value → H) :
    ReturnsInHanded {} Try.checked os 8 .any (Rows.airmassWindowsSpec.pre6 enc Try.prog Try.f8 Rows.airmassWindowsRow.domain false) (Rows.airmassWindowsSpec.post enc Try.prog Try.f8 false true false false) := by
  refine returnsInHanded_of_change (C := Try.checked) own started (by kernel_rfl) Try.func8
    (ChangeSpec.witness6 (enc := enc) (C := Try.checked) false ⟨#[], #[.int .i64 0, .int .i64 0, .int .i64 0, .int .i64 0, .int .i64 0], []⟩ 8 (by kernel_rfl) (by kernel_rfl) (by kernel_rfl) (by kernel_rfl)) ?_
  intro W base args ds gs before hval0 hW hcnd _
  have hval : ∀ (j : Nat) t v, Try.f8.params[j]? = some t → args[j]? = some v → Value.okWide Try.prog W .any base t v := hval0
  have hW' := hW
  obtain ⟨p, q, hA0, hV, rfl, hfz, hnd⟩ := hW
  have hA : DataW.TrodAll enc Try.prog W 0 (fun _ => true) true Try.f8.params.toList args.toList ds p := hA0
  rw [Try.params8] at hA hval
  obtain ⟨v0, vs0, d0, ds0, p0, q0, hargs, rfl, rfl, h0, r0⟩ := trodAll_cons hA
  obtain ⟨v1, vs1, d1, ds1, p1, q1, rfl, rfl, rfl, h1, r1⟩ := trodAll_cons r0
  obtain ⟨v2, vs2, d2, ds2, p2, q2, rfl, rfl, rfl, h2, r2⟩ := trodAll_cons r1
  obtain ⟨v3, vs3, d3, ds3, p3, q3, rfl, rfl, rfl, h3, r3⟩ := trodAll_cons r2
  obtain ⟨v4, vs4, d4, ds4, p4, q4, rfl, rfl, rfl, h4, r4⟩ := trodAll_cons r3
  obtain ⟨rfl, rfl, rfl⟩ := trodAll_nil r4
  obtain rfl : args = #[v0, v1, v2, v3, v4] := by cases args; simp_all
  obtain ⟨rfl, rfl⟩ := trodVars_none hV
  obtain ⟨a0, rfl, rfl, rfl, w0⟩ := open_int Try.underlying3 (hval 0 3 v0 rfl rfl) h0
  obtain ⟨a1, rfl, rfl, rfl, w1⟩ := open_int Try.underlying3 (hval 1 3 v1 rfl rfl) h1
  obtain ⟨a2, rfl, rfl, rfl, w2⟩ := open_int Try.underlying3 (hval 2 3 v2 rfl rfl) h2
  obtain ⟨a3, rfl, rfl, rfl, w3⟩ := open_int Try.underlying3 (hval 3 3 v3 rfl rfl) h3
  obtain ⟨a4, rfl, rfl, rfl, w4⟩ := open_int Try.underlying3 (hval 4 3 v4 rfl rfl) h4
  clear hA0 hval0
  refine (walk a0 w0 a1 w1 a2 w2 a3 w3 a4 w4 W).mono fun e W' ⟨he, bel⟩ => ?_
  subst he
  exact ⟨_, rfl, _, _, _, [], _, [], hW', trodAll_mk1 (shut_bool Try.underlying4 _), (trodAll_cons_mk (shut_int Try.underlying3 w0) (trodAll_cons_mk (shut_int Try.underlying3 w1) (trodAll_cons_mk (shut_int Try.underlying3 w2) (trodAll_cons_mk (shut_int Try.underlying3 w3) (trodAll_cons_mk (shut_int Try.underlying3 w4) trodAll_mk0))))), rfl, bel.frame _, fun h => by cases h⟩

theorem over : Rows.airmassWindowsRow.holds Try.pinned (OpenSpec.ofChange Rows.airmassWindowsSpec) :=
  OpenClaim.holds_of_wide 8 Try.f8 rfl rfl rfl rfl rfl rfl rfl ⟨rfl, rfl, rfl, rfl, rfl⟩ rfl rfl rfl rfl rfl (by kernel_rfl) Try.func8 (by kernel_rfl)
    (of_decide_eq_true (by kernel_rfl)) (by unfold Func.isWrapper; first | (rw [if_pos (by decide +kernel)]; kernel_rfl) | (rw [if_neg (by decide +kernel)]; exact ⟨rfl, rfl⟩))
    (fun os started H enc _ => lifted os started H enc)
theorem proved : Rows.AirmassWindowsSaid := over
#print axioms proved
end Go.Proofs.Ytpggggjohfbcdaa.airmassWindows
