/- MergeWindows returns true at every input: two alerts in one group for the lesser window are in one group for the greater one. No conditions. -/
import Derived.Test.YtfddnmibjaibhaaRows
import Derived.Test.YtfddnmibjaibhaaMH
import Derived.Test.YtfddnmibjaibhaaMI
import Derived.ProofKit
import Derived.OpenShut
import Derived.ChangeOld
import Derived.Below
import Derived.Lib.SmallJoins
namespace Go.Proofs.Ytfddnmibjaibhaa.mergeWindows
open Go.ChangeShapes Go.WideShapes Go.ChangeAt Go.RowKit Go.Joins
set_option linter.unusedVariables false

set_option maxHeartbeats 3200000 in
set_option maxRecDepth 100000 in
theorem walk (w : World) (A : Option Addr) (l : List Al) (cp : Nat) (hz : l.length ≤ maxLen) (hA : RowA w w.heap.size A l) (a1 : Int) (w1 : (Lit.int .i64 a1).wf = true) (a2 : Int) (w2 : (Lit.int .i64 a2).wf = true) :
    Calls Try.prog 7 #[.slice A l.length cp, .int .i64 a1, .int .i64 a2] w fun e w' => e = .returned (.bool true) ∧ Below w.heap.size w w' := by
  obtain ⟨n, hn⟩ : ∃ n, l.length = n := ⟨_, rfl⟩
  rw [hn] at hz ⊢
  have HN := hid hn
  have HA := hid hA
  have HZ := hid hz
  have hzm : n ≤ 2 ^ 63 - 1 := hz
  clear hn hA w1 w2 hz
  obtain ⟨f, hf⟩ : ∃ f, decide (n ≤ 24 ∨ (200 < n ∧ n ≤ 210)) = f := ⟨_, rfl⟩
  have HF := hid hf
  clear hf
  obtain ⟨E, hE⟩ : ∃ E, errG l = E := ⟨_, rfl⟩
  have hE0 : (E == 0) = false := by rw [← hE]; unfold errG; split <;> rfl
  have hE1 : (E != 0) = true := by rw [← hE]; unfold errG; split <;> rfl
  have HE := hid hE
  clear hE
  go_enter Try.func7, Try.ntmps7
  go_wp2_with fail
  refine (head38_any _).mono ?_
  rintro e w3 ⟨rfl, hb3⟩
  have HB3 := hid hb3
  clear hb3
  go_wp2_with fail
  refine (few_any _ _ _ _ HZ.out).mono ?_
  rintro e w4 ⟨rfl, rfl⟩
  rw [HF.out]
  cases f
  · go_wp2
    go_ret
    exact ⟨rfl, HB3.out⟩
  · have hn1 : n ≤ 210 := by have := of_decide_eq_true HF.out; omega
    have hA3 := HA.out.kept (hb := HB3.out)
    have HA3 := hid (hA3.wide HB3.out.size)
    clear hA3
    rw [← HN.out]
    go_wp2_with fail
    refine (Groups_u _ _ l _ _ (by rw [HN.out]; omega) HA3.out).mono ?_
    rintro e w4 ⟨hb4, hr4⟩
    have HA4 := hid ((HA3.out.kept hb4).wide hb4.size)
    have HB4 := hid (bl HB3.out hb4)
    clear hb4
    rw [HE.out] at hr4
    rcases hr4 with ⟨hk4, A4, c4, rfl, hG4⟩ | ⟨hk4, rfl⟩
    all_goals
      have HK4 := hid hk4
      clear hk4
    · have HG4 := hid (hG4.wide (Nat.zero_le _) (Nat.le_refl _))
      clear hG4
      go_wp2_with fail
      refine (Groups_u _ _ l _ _ (by rw [HN.out]; omega) HA4.out).mono ?_
      rintro e w5 ⟨hb5, hr5⟩
      have HB5 := hid (bl HB4.out hb5)
      have HG5 := hid (HG4.out.call hb5)
      clear hb5
      rw [HE.out] at hr5
      rcases hr5 with ⟨hk5, A5, c5, rfl, hG5⟩ | ⟨hk5, rfl⟩
      all_goals
        have HK5 := hid hk5
        clear hk5
      · have HH5 := hid (hG5.wide (Nat.zero_le _) (Nat.le_refl _))
        clear hG5
        have hl200 : n ≤ 200 := by rw [← HN.out]; exact (okG_of.1 HK4.out).1
        have hpq : min a1 a2 ≤ max a1 a2 := by omega
        have HPQ := hid hpq
        clear hpq
        obtain ⟨p, hp⟩ : ∃ p, min a1 a2 = p := ⟨_, rfl⟩
        obtain ⟨q, hq⟩ : ∃ q, max a1 a2 = q := ⟨_, rfl⟩
        rw [hp, hq] at HPQ
        rw [hp] at HG5 ⊢
        rw [hq] at HH5 ⊢
        clear hp hq HK4 HK5 HG4
        unfold grp at HG5 HH5 ⊢
        rw [HN.out] at HG5 HH5 ⊢
        have hco := gl_coarse HPQ.out l
        rw [HN.out] at hco
        have hid1 := fun (i j : Nat) (hi : i < n) (hj : j < n) => idx_mono HPQ.out l (i := i) (j := j) (by rw [HN.out]; exact hi) (by rw [HN.out]; exact hj)
        rw [HN.out] at hid1
        obtain ⟨c, hc⟩ : ∃ c, col p l = c := ⟨_, rfl⟩
        obtain ⟨d, hd⟩ : ∃ d, col q l = d := ⟨_, rfl⟩
        rw [hc] at HG5 hco hid1 ⊢
        rw [hd] at HH5 hco hid1 ⊢
        clear hc hd
        have HID := hid hid1
        have hlen : decide ((gl n c).length < (gl n d).length) = false := decide_eq_false (by omega)
        obtain ⟨G1, hG1⟩ : ∃ x, (gl n c).length = x := ⟨_, rfl⟩
        obtain ⟨G2, hG2⟩ : ∃ x, (gl n d).length = x := ⟨_, rfl⟩
        have HG1 := hid hG1
        have HG2 := hid hG2
        rw [hG1, hG2] at hco hlen ⊢
        clear hid1 hG1 hG2
        go_wp2_with fail
        refine (of_is HG1.out _ _ HG5.out (Nat.le_refl _) hl200).mono ?_
        rintro e w6 ⟨rfl, hr6, hb6⟩
        have HR6 := hid hr6
        have HB6 := hid (bl HB5.out hb6)
        have HH6 := hid (HH5.out.call hb6)
        have hs6 : w5.heap.size < w6.heap.size := World.rowIs.lt hr6
        clear hr6 hb6 HG5 HH5
        go_wp2_with fail
        refine (of_is HG2.out _ _ HH6.out (Nat.le_refl _) hl200).mono ?_
        rintro e w7 ⟨rfl, hr7, hb7⟩
        have HR7 := hid hr7
        have HB7 := hid (bl HB6.out hb7)
        have HX7 := hid hb7
        have hs7 : w6.heap.size < w7.heap.size := World.rowIs.lt hr7
        clear hr7 hb7 HH6
        go_wp2_with fail
        go_loopw [16] (fun i wr => ∃ k m : Nat, k ≤ n ∧ i = .int .i64 (k : Nat) ∧ wr = w7.drewN m) (fun i _ => n - (intOf i).toNat)
        case atStart => exact ⟨0, 0, Nat.zero_le _, rfl, rfl⟩
        case round =>
          obtain ⟨i, m, hi, rfl, rfl⟩ := hrel
          by_cases hin : i < n
          · have ci := (HX7.out.cell (p := ⟨w5.heap.size, i, none⟩) (by simpa using hs6)).trans (HR6.out.cell hin)
            have di := HR7.out.cell hin
            obtain ⟨ai, hai⟩ : ∃ x, idx n c i + 1 = x := ⟨_, rfl⟩
            obtain ⟨bi, hbi⟩ : ∃ x, idx n d i + 1 = x := ⟨_, rfl⟩
            rw [hai] at ci
            rw [hbi] at di
            have HAI := hid hai
            have HBI := hid hbi
            clear hai hbi
            go_wp2_with fail
            go_loopw [17] (fun j wr => ∃ k m : Nat, k ≤ i ∧ j = .int .i64 (k : Nat) ∧ wr = w7.drewN m) (fun j _ => i - (intOf j).toNat)
            case atStart => exact ⟨0, _, Nat.zero_le _, rfl, rfl⟩
            case round =>
              obtain ⟨k, m', hk, rfl, rfl⟩ := hrel
              by_cases hki : k < i
              · have hkn : k < n := by omega
                have ck := (HX7.out.cell (p := ⟨w5.heap.size, k, none⟩) (by simpa using hs6)).trans (HR6.out.cell hkn)
                have dk := HR7.out.cell hkn
                obtain ⟨ak, hak⟩ : ∃ x, idx n c k + 1 = x := ⟨_, rfl⟩
                obtain ⟨bk, hbk⟩ : ∃ x, idx n d k + 1 = x := ⟨_, rfl⟩
                rw [hak] at ck
                rw [hbk] at dk
                have hlaw : ai = ak → bi = bk := by
                  intro h
                  have h1 := HAI.out
                  have h2 := HBI.out
                  have := HID.out i k hin hkn (by omega)
                  omega
                clear hak hbk
                by_cases he : ai = ak
                · have heb := hlaw he
                  subst he
                  subst heb
                  clear hlaw
                  go_wp2_with fail
                  go_quiet (fail)
                  go_wp2
                  go_roundw
                  case rel => exact ⟨k + 1, _, by omega, by go_num, rfl⟩
                  case measure => simp [intOf]; omega
                · have ex : ((ai : Int) == (ak : Int)) = false := by simp; omega
                  clear hlaw
                  go_wp2_with fail
                  go_quiet (fail)
                  go_wp2
                  go_roundw
                  case rel => exact ⟨k + 1, _, by omega, by go_num, rfl⟩
                  case measure => simp [intOf]; omega
              · obtain rfl : k = i := by omega
                go_wp2
                go_roundw
                case rel => exact ⟨k + 1, _, by omega, by go_num, rfl⟩
                case measure => simp [intOf]; omega
          · obtain rfl : i = n := by omega
            go_wp2
            go_ret
            exact ⟨rfl, bl HB7.out (dN _ _)⟩
      · go_wp2
        go_ret
        exact ⟨rfl, HB5.out⟩
    · go_wp2_with fail
      refine (Groups_u _ _ l _ _ (by rw [HN.out]; omega) HA4.out).mono ?_
      rintro e w5 ⟨hb5, hr5⟩
      have HB5 := hid (bl HB4.out hb5)
      clear hb5
      rw [HE.out] at hr5
      rcases hr5 with ⟨hk5, A5, c5, rfl, hG5⟩ | ⟨hk5, rfl⟩
      all_goals
        go_wp2
        go_ret
        exact ⟨rfl, HB5.out⟩

theorem own : ownKnob Try.prog.godebug = none := by kernel_rfl
theorem laidOut : laidOutB Try.prog = true := by kernel_rfl
set_option maxRecDepth 100000 in
theorem lifted (os : Os) (started : os.Started) (H : Type) (enc : TypeId × Value → H) :
    ReturnsInHanded {} Try.checked os 7 .any (Rows.mergeWindowsSpec.pre6 enc Try.prog Try.f7 Rows.mergeWindowsRow.domain false) (Rows.mergeWindowsSpec.post enc Try.prog Try.f7 false true false false) := by
  refine returnsInHanded_of_change (C := Try.checked) own started (by kernel_rfl) Try.func7
    (ChangeSpec.witness6 (enc := enc) (C := Try.checked) false ⟨#[], #[.slice none 0 0, .int .i64 0, .int .i64 0], []⟩ 8 (by kernel_rfl) (by kernel_rfl) (by kernel_rfl) (by kernel_rfl)) ?_
  intro W base args ds gs before hval0 hW hcnd _
  have hval : ∀ (j : Nat) t v, Try.f7.params[j]? = some t → args[j]? = some v → Value.okWide Try.prog W .any base t v := hval0
  have hW' := hW
  obtain ⟨p, q, hA0, hV, rfl, hfz, hnd⟩ := hW
  have hA : DataW.TrodAll enc Try.prog W 0 (fun _ => true) true Try.f7.params.toList args.toList ds p := hA0
  rw [Try.params7] at hA hval
  obtain ⟨v0, vs0, d0, ds0, p0, q0, hargs, rfl, rfl, h0, r0⟩ := trodAll_cons hA
  obtain ⟨v1, vs1, d1, ds1, p1, q1, rfl, rfl, rfl, h1, r1⟩ := trodAll_cons r0
  obtain ⟨v2, vs2, d2, ds2, p2, q2, rfl, rfl, rfl, h2, r2⟩ := trodAll_cons r1
  obtain ⟨rfl, rfl, rfl⟩ := trodAll_nil r2
  obtain rfl : args = #[v0, v1, v2] := by cases args; simp_all
  obtain ⟨rfl, rfl⟩ := trodVars_none hV
  have k0 := h0
  have lt0 : ∀ x ∈ p0, x.block < W.heap.size := by obtain ⟨m, hm⟩ := k0; exact DataW.trod_lt m _ _ _ hm
  obtain ⟨A0, l0, c0, rfl, z0, hz0⟩ := open_alerts (hval 0 42 v0 rfl rfl) h0
  obtain ⟨a1, rfl, rfl, rfl, w1⟩ := open_int Try.underlying3 (hval 1 3 v1 rfl rfl) h1
  obtain ⟨a2, rfl, rfl, rfl, w2⟩ := open_int Try.underlying3 (hval 2 3 v2 rfl rfl) h2
  clear hA0 hval0
  refine (walk W A0 l0 c0 z0 hz0 a1 w1 a2 w2).mono fun e W' ⟨he, bel⟩ => ?_
  subst he
  exact ⟨_, rfl, _, _, _, [], _, [], hW', trodAll_mk1 (shut_bool Try.underlying4 _), (trodAll_cons_mk (Below.trod laidOut (by kernel_rfl) (of_decide_eq_true (by kernel_rfl)) k0 bel lt0) (trodAll_cons_mk (shut_int Try.underlying3 w1) (trodAll_cons_mk (shut_int Try.underlying3 w2) trodAll_mk0))), rfl, bel.frame _, fun h => by cases h⟩

theorem over : Rows.mergeWindowsRow.holds Try.pinned (OpenSpec.ofChange Rows.mergeWindowsSpec) :=
  OpenClaim.holds_of_wide 7 Try.f7 rfl rfl rfl rfl rfl rfl rfl ⟨rfl, rfl, rfl, rfl, rfl⟩ rfl rfl rfl rfl rfl (by kernel_rfl) Try.func7 (by kernel_rfl)
    (of_decide_eq_true (by kernel_rfl)) (by unfold Func.isWrapper; first | (rw [if_pos (by decide +kernel)]; kernel_rfl) | (rw [if_neg (by decide +kernel)]; exact ⟨rfl, rfl⟩))
    (fun os started H enc _ => lifted os started H enc)
theorem proved : Rows.MergeWindowsSaid := over
#print axioms proved
end Go.Proofs.Ytfddnmibjaibhaa.mergeWindows
