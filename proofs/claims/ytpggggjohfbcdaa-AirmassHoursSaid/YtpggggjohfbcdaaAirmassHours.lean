/- AirmassHours returns true at every input: hour angles lie from -2880 to 2879; the next column's is 180 less, the next slot's 60 more, the next night's 16 more, modulo 5760. No conditions. -/
import Derived.Test.YtpggggjohfbcdaaRows
import Derived.Test.YtpggggjohfbcdaaA8
import Derived.ProofKit
import Derived.OpenShut
import Derived.ChangeOld
import Derived.Below
import Derived.Lib.SmallJoins
namespace Go.Proofs.Ytpggggjohfbcdaa.airmassHours
open Go.ChangeShapes Go.WideShapes Go.ChangeAt Go.RowKit Go.Joins
set_option linter.unusedVariables false

theorem tm {x : Int} (h : x % 5760 = 0) (h0 : -11000 ≤ x) (h1 : x ≤ 11000) : x.tmod 5760 = 0 := by
  have : x = 0 ∨ x = 5760 ∨ x = -5760 := by omega
  rcases this with rfl | rfl | rfl <;> decide
theorem hr_col (c m : Int) : (hr c m - 180 - hr ((c + 1) % 32) m).tmod 5760 = 0 := by
  have a := hr_bd c m
  have b := hr_bd ((c + 1) % 32) m
  exact tm (by unfold hr; omega) (by omega) (by omega)
theorem sid_slot (m : Int) (h : m % 96 < 95) : sid (m + 1) = (sid m + 60) % 5760 := by
  have e1 : (m + 1) / 96 = m / 96 := by omega
  have e2 : (m + 1) % 96 = m % 96 + 1 := by omega
  unfold sid; rw [e1, e2]; omega
theorem sid_night (m : Int) : sid (m + 96) = (sid m + 16) % 5760 := by
  have e1 : (m + 96) / 96 = m / 96 + 1 := by omega
  have e2 : (m + 96) % 96 = m % 96 := by omega
  unfold sid; rw [e1, e2]; omega
theorem hr_slot (c m : Int) (h : m % 96 < 95) : (hr c m + 60 - hr c (m + 1)).tmod 5760 = 0 := by
  have a := hr_bd c m
  have b := hr_bd c (m + 1)
  have e := sid_slot m h
  exact tm (by unfold hr; rw [e]; omega) (by omega) (by omega)
theorem hr_night (c m : Int) : (hr c m + 16 - hr c (m + 96)).tmod 5760 = 0 := by
  have a := hr_bd c m
  have b := hr_bd c (m + 96)
  have e := sid_night m
  exact tm (by unfold hr; rw [e]; omega) (by omega) (by omega)
theorem Hour_is {c m v : Int} (hv : hr c m = v) (w : World) (h0 : 0 ≤ m) (h1 : m < 38400) (h2 : 0 ≤ c) (h3 : c < 32) : Calls Try.prog 11 #[.int .i64 c, .int .i64 m] w fun e w' => e = .returned (.tuple #[.int .i64 v, .int .i64 0]) ∧ w = w' := by
  subst hv; exact Hour_ok c m w h0 h1 h2 h3

set_option maxHeartbeats 2000000 in
set_option maxRecDepth 100000 in
theorem walk (a0 : Int) (_w0 : (Lit.int .i64 a0).wf = true) (a1 : Int) (_w1 : (Lit.int .i64 a1).wf = true) (w : World) :
    Calls Try.prog 4 #[.int .i64 a0, .int .i64 a1] w fun e w' => e = .returned (.bool true) ∧ Below w.heap.size w w' := by
  clear _w0 _w1
  by_cases hv : 0 ≤ a1 ∧ a1 < 38400 ∧ 0 ≤ a0 ∧ a0 < 32
  · obtain ⟨h0, h1, h2, h3⟩ := hv
    obtain ⟨a, ha⟩ : ∃ a, hr a0 a1 = a := ⟨_, rfl⟩
    obtain ⟨b, hb⟩ : ∃ b, hr ((a0 + 1) % 32) a1 = b := ⟨_, rfl⟩
    obtain ⟨c, hc⟩ : ∃ c, hr a0 (a1 + 1) = c := ⟨_, rfl⟩
    obtain ⟨d, hd⟩ : ∃ d, hr a0 (a1 + 96) = d := ⟨_, rfl⟩
    have g1 := hr_bd a0 a1
    have g2 := hr_bd ((a0 + 1) % 32) a1
    have g3 := hr_bd a0 (a1 + 1)
    have g4 := hr_bd a0 (a1 + 96)
    have t1 := hr_col a0 a1
    have t2 : a1 % 96 < 95 → (hr a0 a1 + 60 - hr a0 (a1 + 1)).tmod 5760 = 0 := hr_slot a0 a1
    have t3 := hr_night a0 a1
    rw [ha] at g1 t1 t2 t3
    rw [hb] at g2 t1
    rw [hc] at g3 t2
    rw [hd] at g4 t3
    have HA := hid ha
    have HB := hid hb
    have HC := hid hc
    have HD := hid hd
    have T2 := hid t2
    clear ha hb hc hd t2
    go_enter Try.func4, Try.ntmps4
    go_wp2_with fail
    refine (head_any _).mono ?_
    rintro e w1 ⟨rfl, hb1⟩
    go_wp2_with fail
    refine (Hour_is HA.out _ h0 h1 h2 h3).mono ?_
    rintro e w2 ⟨rfl, rfl⟩
    go_wp2_with fail
    refine (Hour_is HB.out _ h0 h1 (by omega) (by omega)).mono ?_
    rintro e w2 ⟨rfl, rfl⟩
    go_wp2_with fail
    by_cases hs : a1 % 96 < 95
    · have t2 := T2.out hs
      refine (Hour_is HC.out _ (by omega) (by omega) h2 h3).mono ?_
      rintro e w2 ⟨rfl, rfl⟩
      go_wp2_with fail
      by_cases hn : a1 + 96 < 38400
      · refine (Hour_is HD.out _ (by omega) hn h2 h3).mono ?_
        rintro e w2 ⟨rfl, rfl⟩
        go_wp2
        go_ret
        exact ⟨rfl, hb1⟩
      · refine (Hour_err _ _ _ (by omega)).mono ?_
        rintro e w2 ⟨rfl, rfl⟩
        go_wp2
        go_ret
        exact ⟨rfl, hb1⟩
    · by_cases hq : a1 + 1 < 38400
      · refine (Hour_is HC.out _ (by omega) hq h2 h3).mono ?_
        rintro e w2 ⟨rfl, rfl⟩
        go_wp2_with fail
        by_cases hn : a1 + 96 < 38400
        · refine (Hour_is HD.out _ (by omega) hn h2 h3).mono ?_
          rintro e w2 ⟨rfl, rfl⟩
          go_wp2
          go_ret
          exact ⟨rfl, hb1⟩
        · exfalso; omega
      · refine (Hour_err _ _ _ (by omega)).mono ?_
        rintro e w2 ⟨rfl, rfl⟩
        go_wp2_with fail
        refine (Hour_err _ _ _ (by omega)).mono ?_
        rintro e w2 ⟨rfl, rfl⟩
        go_wp2
        go_ret
        exact ⟨rfl, hb1⟩
  · have HV := hid hv
    clear hv
    go_enter Try.func4, Try.ntmps4
    go_wp2_with fail
    refine (head_any _).mono ?_
    rintro e w1 ⟨rfl, hb1⟩
    go_wp2_with fail
    refine (Hour_err _ _ _ HV.out).mono ?_
    rintro e w2 ⟨rfl, rfl⟩
    go_wp2
    all_goals
      go_ret
      exact ⟨ret_bool (by have := HV.out; simp <;> omega), hb1⟩

theorem own : ownKnob Try.prog.godebug = none := by kernel_rfl
theorem laidOut : laidOutB Try.prog = true := by kernel_rfl
set_option maxRecDepth 100000 in
theorem lifted (os : Os) (started : os.Started) (H : Type) (enc : TypeId × Value → H) :
    ReturnsInHanded {} Try.checked os 4 .any (Rows.airmassHoursSpec.pre6 enc Try.prog Try.f4 Rows.airmassHoursRow.domain false) (Rows.airmassHoursSpec.post enc Try.prog Try.f4 false true false false) := by
  refine returnsInHanded_of_change (C := Try.checked) own started (by kernel_rfl) Try.func4
    (ChangeSpec.witness6 (enc := enc) (C := Try.checked) false ⟨#[], #[.int .i64 0, .int .i64 0], []⟩ 8 (by kernel_rfl) (by kernel_rfl) (by kernel_rfl) (by kernel_rfl)) ?_
  intro W base args ds gs before hval0 hW hcnd _
  have hval : ∀ (j : Nat) t v, Try.f4.params[j]? = some t → args[j]? = some v → Value.okWide Try.prog W .any base t v := hval0
  have hW' := hW
  obtain ⟨p, q, hA0, hV, rfl, hfz, hnd⟩ := hW
  have hA : DataW.TrodAll enc Try.prog W 0 (fun _ => true) true Try.f4.params.toList args.toList ds p := hA0
  rw [Try.params4] at hA hval
  obtain ⟨v0, vs0, d0, ds0, p0, q0, hargs, rfl, rfl, h0, r0⟩ := trodAll_cons hA
  obtain ⟨v1, vs1, d1, ds1, p1, q1, rfl, rfl, rfl, h1, r1⟩ := trodAll_cons r0
  obtain ⟨rfl, rfl, rfl⟩ := trodAll_nil r1
  obtain rfl : args = #[v0, v1] := by cases args; simp_all
  obtain ⟨rfl, rfl⟩ := trodVars_none hV
  obtain ⟨a0, rfl, rfl, rfl, w0⟩ := open_int Try.underlying3 (hval 0 3 v0 rfl rfl) h0
  obtain ⟨a1, rfl, rfl, rfl, w1⟩ := open_int Try.underlying3 (hval 1 3 v1 rfl rfl) h1
  clear hA0 hval0
  refine (walk a0 w0 a1 w1 W).mono fun e W' ⟨he, bel⟩ => ?_
  subst he
  exact ⟨_, rfl, _, _, _, [], _, [], hW', trodAll_mk1 (shut_bool Try.underlying4 _), (trodAll_cons_mk (shut_int Try.underlying3 w0) (trodAll_cons_mk (shut_int Try.underlying3 w1) trodAll_mk0)), rfl, bel.frame _, fun h => by cases h⟩

theorem over : Rows.airmassHoursRow.holds Try.pinned (OpenSpec.ofChange Rows.airmassHoursSpec) :=
  OpenClaim.holds_of_wide 4 Try.f4 rfl rfl rfl rfl rfl rfl rfl ⟨rfl, rfl, rfl, rfl, rfl⟩ rfl rfl rfl rfl rfl (by kernel_rfl) Try.func4 (by kernel_rfl)
    (of_decide_eq_true (by kernel_rfl)) (by unfold Func.isWrapper; first | (rw [if_pos (by decide +kernel)]; kernel_rfl) | (rw [if_neg (by decide +kernel)]; exact ⟨rfl, rfl⟩))
    (fun os started H enc _ => lifted os started H enc)
theorem proved : Rows.AirmassHoursSaid := over
#print axioms proved
end Go.Proofs.Ytpggggjohfbcdaa.airmassHours
