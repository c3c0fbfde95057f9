/- MergeMatchesReference returns true at every input: Groups agrees with the reference implementation. No conditions. -/
import Derived.Test.YtfddnmibjaibhaaRows
import Derived.Test.YtfddnmibjaibhaaMP
import Derived.ProofKit
import Derived.OpenShut
import Derived.ChangeOld
import Derived.Below
import Derived.Lib.SmallJoins
namespace Go.Proofs.Ytfddnmibjaibhaa.mergeMatchesReference
open Go.ChangeShapes Go.WideShapes Go.ChangeAt Go.RowKit Go.Joins
set_option linter.unusedVariables false

theorem small {n : Nat} {c : Nat → Nat} (hn : n ≤ 200) : (gl n c).length ≤ 1000000 ∧ ∀ l ∈ gl n c, l.length ≤ 1000000 :=
  ⟨by have := fr_le n c; rw [gl_length]; omega, fun l hl => by have := (gl_len_le hl).2; omega⟩
set_option maxHeartbeats 3200000 in
set_option maxRecDepth 100000 in
theorem walk (w : World) (A : Option Addr) (l : List Al) (cp : Nat) (hz : l.length ≤ maxLen) (hA : RowA w w.heap.size A l) (a1 : Int) (_w1 : (Lit.int .i64 a1).wf = true) :
    Calls Try.prog 10 #[.slice A l.length cp, .int .i64 a1] w fun e w' => e = .returned (.bool true) ∧ Below w.heap.size w w' := by
  obtain ⟨n, hn⟩ : ∃ n, l.length = n := ⟨_, rfl⟩
  rw [hn] at hz ⊢
  have HN := hid hn
  have HA := hid hA
  have HZ := hid hz
  have hzm : n ≤ 2 ^ 63 - 1 := hz
  clear hn hA hz
  obtain ⟨f, hf⟩ : ∃ f, decide (n ≤ 24 ∨ (200 < n ∧ n ≤ 210)) = f := ⟨_, rfl⟩
  have HF := hid hf
  clear hf
  go_enter Try.func10, Try.ntmps10
  go_wp2_with fail
  refine (head38_any _).mono ?_
  rintro e w3 ⟨rfl, hb3⟩
  have HB3 := hid hb3
  clear hb3
  go_wp2_with fail
  refine (few_any _ _ _ _ HZ.out).mono ?_
  rintro e w4 ⟨rfl, rfl⟩
  rw [HF.out]
  cases f
  · go_wp2
    go_ret
    exact ⟨rfl, HB3.out⟩
  · have hn1 : n ≤ 210 := by have := of_decide_eq_true HF.out; omega
    have HA3 := hid ((HA.out.kept (hb := HB3.out)).wide HB3.out.size)
    obtain ⟨E, hE⟩ : ∃ E, errG l = E := ⟨_, rfl⟩
    have HE := hid hE
    clear hE
    go_wp2_with fail
    refine (Groups_n HN.out HE.out _ _ _ _ (by omega) HA3.out).mono ?_
    rintro e w4 ⟨hb4, hr4⟩
    have HA4 := hid ((HA3.out.kept hb4).wide hb4.size)
    have HB4 := hid (bl HB3.out hb4)
    clear hb4
    rcases hr4 with ⟨hk4, A4, c4, rfl, hG4⟩ | ⟨hk4, rfl⟩
    all_goals
      have HK4 := hid hk4
      clear hk4
    · have HG4 := hid hG4
      clear hG4
      have hl200 : n ≤ 200 := by rw [← HN.out]; exact (okG_of.1 HK4.out).1
      go_wp2_with fail
      refine (rGroups_n HN.out HE.out _ _ _ _ (by omega) HA4.out).mono ?_
      rintro e w5 ⟨hb5, hr5⟩
      have HB5 := hid (bl HB4.out hb5)
      have HG5 := hid (HG4.out.call hb5)
      clear hb5
      rcases hr5 with ⟨hk5, A5, c5, rfl, hG5⟩ | ⟨hk5, rfl⟩
      · have HH5 := hid hG5
        clear hG5 hk5
        obtain ⟨c, hc⟩ : ∃ c, col a1 l = c := ⟨_, rfl⟩
        rw [hc] at HG5 HH5 ⊢
        clear hc
        have hsm := small (c := c) hl200
        obtain ⟨G1, hG1⟩ : ∃ x, (gl n c).length = x := ⟨_, rfl⟩
        have HG1 := hid hG1
        have HSM := hid hsm
        rw [hG1]
        clear hsm hG1
        go_wp2_with fail
        refine (Same_yes (gs := gl n c) (hs := gl n c) rfl HG1.out HG1.out _ _ _ _ _ _ _ _ _ HG5.out HH5.out HSM.out.1 HSM.out.2).mono ?_
        rintro e w6 ⟨rfl, hb6⟩
        have HB6 := hid (bl HB5.out hb6)
        clear hb6
        go_wp2
        go_ret
        exact ⟨rfl, HB6.out⟩
      · exact absurd (HK4.out.symm.trans hk5) (by decide)
    · go_wp2_with fail
      refine (rGroups_n HN.out HE.out _ _ _ _ (by omega) HA4.out).mono ?_
      rintro e w5 ⟨hb5, hr5⟩
      have HB5 := hid (bl HB4.out hb5)
      clear hb5
      rcases hr5 with ⟨hk5, A5, c5, rfl, hG5⟩ | ⟨hk5, rfl⟩
      · exact absurd (HK4.out.symm.trans hk5) (by decide)
      · go_wp2_with fail
        refine (Same_yes (gs := []) (hs := []) rfl rfl rfl _ _ _ _ 0 0 0 0 _ (.inl rfl) (.inl rfl) (by simp) (by simp)).mono ?_
        rintro e w6 ⟨rfl, hb6⟩
        have HB6 := hid (bl HB5.out hb6)
        clear hb6
        go_wp2
        go_ret
        exact ⟨rfl, HB6.out⟩

theorem own : ownKnob Try.prog.godebug = none := by kernel_rfl
theorem laidOut : laidOutB Try.prog = true := by kernel_rfl
set_option maxRecDepth 100000 in
theorem lifted (os : Os) (started : os.Started) (H : Type) (enc : TypeId × Value → H) :
    ReturnsInHanded {} Try.checked os 10 .any (Rows.mergeMatchesReferenceSpec.pre6 enc Try.prog Try.f10 Rows.mergeMatchesReferenceRow.domain false) (Rows.mergeMatchesReferenceSpec.post enc Try.prog Try.f10 false true false false) := by
  refine returnsInHanded_of_change (C := Try.checked) own started (by kernel_rfl) Try.func10
    (ChangeSpec.witness6 (enc := enc) (C := Try.checked) false ⟨#[], #[.slice none 0 0, .int .i64 0], []⟩ 8 (by kernel_rfl) (by kernel_rfl) (by kernel_rfl) (by kernel_rfl)) ?_
  intro W base args ds gs before hval0 hW hcnd _
  have hval : ∀ (j : Nat) t v, Try.f10.params[j]? = some t → args[j]? = some v → Value.okWide Try.prog W .any base t v := hval0
  have hW' := hW
  obtain ⟨p, q, hA0, hV, rfl, hfz, hnd⟩ := hW
  have hA : DataW.TrodAll enc Try.prog W 0 (fun _ => true) true Try.f10.params.toList args.toList ds p := hA0
  rw [Try.params10] at hA hval
  obtain ⟨v0, vs0, d0, ds0, p0, q0, hargs, rfl, rfl, h0, r0⟩ := trodAll_cons hA
  obtain ⟨v1, vs1, d1, ds1, p1, q1, rfl, rfl, rfl, h1, r1⟩ := trodAll_cons r0
  obtain ⟨rfl, rfl, rfl⟩ := trodAll_nil r1
  obtain rfl : args = #[v0, v1] := by cases args; simp_all
  obtain ⟨rfl, rfl⟩ := trodVars_none hV
  have k0 := h0
  have lt0 : ∀ x ∈ p0, x.block < W.heap.size := by obtain ⟨m, hm⟩ := k0; exact DataW.trod_lt m _ _ _ hm
  obtain ⟨A0, l0, c0, rfl, z0, hz0⟩ := open_alerts (hval 0 42 v0 rfl rfl) h0
  obtain ⟨a1, rfl, rfl, rfl, w1⟩ := open_int Try.underlying3 (hval 1 3 v1 rfl rfl) h1
  clear hA0 hval0
  refine (walk W A0 l0 c0 z0 hz0 a1 w1).mono fun e W' ⟨he, bel⟩ => ?_
  subst he
  exact ⟨_, rfl, _, _, _, [], _, [], hW', trodAll_mk1 (shut_bool Try.underlying4 _), (trodAll_cons_mk (Below.trod laidOut (by kernel_rfl) (of_decide_eq_true (by kernel_rfl)) k0 bel lt0) (trodAll_cons_mk (shut_int Try.underlying3 w1) trodAll_mk0)), rfl, bel.frame _, fun h => by cases h⟩

theorem over : Rows.mergeMatchesReferenceRow.holds Try.pinned (OpenSpec.ofChange Rows.mergeMatchesReferenceSpec) :=
  OpenClaim.holds_of_wide 10 Try.f10 rfl rfl rfl rfl rfl rfl rfl ⟨rfl, rfl, rfl, rfl, rfl⟩ rfl rfl rfl rfl rfl (by kernel_rfl) Try.func10 (by kernel_rfl)
    (of_decide_eq_true (by kernel_rfl)) (by unfold Func.isWrapper; first | (rw [if_pos (by decide +kernel)]; kernel_rfl) | (rw [if_neg (by decide +kernel)]; exact ⟨rfl, rfl⟩))
    (fun os started H enc _ => lifted os started H enc)
theorem proved : Rows.MergeMatchesReferenceSaid := over
#print axioms proved
end Go.Proofs.Ytfddnmibjaibhaa.mergeMatchesReference
