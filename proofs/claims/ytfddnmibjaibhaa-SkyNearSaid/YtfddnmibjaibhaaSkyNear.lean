/- SkyNear returns true at every input: Near is strictly increasing, has exactly the tiles within the distance, and as many as the product of the columns and the bands. No conditions. -/
import Derived.Test.YtfddnmibjaibhaaRows
import Derived.Test.YtfddnmibjaibhaaS4
import Derived.ProofKit
import Derived.OpenShut
import Derived.ChangeOld
import Derived.Below
import Derived.Lib.SmallJoins
namespace Go.Proofs.Ytfddnmibjaibhaa.skyNear
open Go.ChangeShapes Go.WideShapes Go.ChangeAt Go.RowKit Go.Joins
set_option linter.unusedVariables false

theorem mem_near {a r : Int} {k i : Nat} : i ∈ near a r k ↔ i < k ∧ dist a i ≤ r := by unfold near; simp
theorem near_pair (a r : Int) (k : Nat) : (near a r k).Pairwise (· < ·) := List.Pairwise.filter _ List.pairwise_lt_range
set_option maxHeartbeats 2000000 in
set_option maxRecDepth 100000 in
theorem walk (a0 : Int) (w0 : (Lit.int .u16 a0).wf = true) (a1 : Int) (w1 : (Lit.int .u16 a1).wf = true) (a2 : Int) (w2 : (Lit.int .u8 a2).wf = true) (w : World) :
    Calls Try.prog 6 #[.int .u16 a0, .int .u16 a1, .int .u8 a2] w fun e w' => e = .returned (.bool true) ∧ Below w.heap.size w w' := by
  have b0 := bounds_u16 w0
  have b1 := bounds_u16 w1
  have b2 := bounds_u8 w2
  clear w0 w1 w2
  obtain ⟨d, hd⟩ : ∃ d, dist (a0 % 512) (a1 % 512) = d := ⟨_, rfl⟩
  have f1 := dist_bd (a0 % 512) (a1 % 512) (by omega) (by omega) (by omega) (by omega)
  rw [hd] at f1
  have HD := hid hd
  clear hd
  obtain ⟨L, hL⟩ : ∃ L : List Int, (near (a0 % 512) (a2 % 32) 512).map (fun i : Nat => (i : Int)) = L := ⟨_, rfl⟩
  have hLm : ∀ x, x ∈ L ↔ (0 ≤ x ∧ x < 512 ∧ dist (a0 % 512) x ≤ a2 % 32) := by
    intro x
    rw [← hL, List.mem_map]
    constructor
    · rintro ⟨i, hi, rfl⟩; have := mem_near.1 hi; omega
    · rintro ⟨h1, h2, h3⟩
      exact ⟨x.toNat, mem_near.2 ⟨by omega, by rw [Int.toNat_of_nonneg h1]; exact h3⟩, Int.toNat_of_nonneg h1⟩
  have hLp : L.Pairwise (· < ·) := by
    rw [← hL, List.pairwise_map]
    exact (near_pair _ _ _).imp (fun h => by omega)
  have hLl : L.length ≤ 512 := by rw [← hL, List.length_map]; exact near_le _ _ _
  have hLn : (L.length : Int) = min (2 * (a2 % 32) + 1) 32 * (min (a0 % 512 / 32 + a2 % 32) 15 - max (a0 % 512 / 32 - a2 % 32) 0 + 1) := by
    rw [← hL, List.length_map]
    have h := near_length (a0 % 512).toNat (a2 % 32).toNat (by omega) (by omega)
    rw [Int.toNat_of_nonneg (by omega), Int.toNat_of_nonneg (by omega)] at h
    rw [h, Int.natCast_mul]
    congr 1 <;> omega
  have HLM := hid hLm
  have HLP := hid hLp
  have HLN := hid hLn
  clear hLm hLp hLn
  go_enter Try.func6, Try.ntmps6
  go_wp2_with fail
  refine (head_any _).mono ?_
  rintro e w1 ⟨rfl, hb1⟩
  go_wp2_with fail
  refine (Near_ok _ _ _ (by omega) (by omega) (by omega) (by omega)).mono ?_
  rintro e w2 ⟨v, rfl, hown, hb2⟩
  go_wp2_with fail
  refine (Distance_is HD.out _ (by omega) (by omega) (by omega) (by omega)).mono ?_
  rintro e w3 ⟨rfl, hb3⟩
  have hown := own_call hown hb3
  rw [nv_eq, hL] at hown
  obtain ⟨hn, A, c, rfl, hR⟩ := own_shape hown
  have HB := hid (bl (bl hb1 hb2) hb3)
  have HN := hid hn
  have HL := hid hL
  clear hown hb1 hb2 hb3 hn hL
  rw [HN.out]
  obtain ⟨n, hn⟩ : ∃ n, n = L.length := ⟨_, rfl⟩
  rw [← hn] at hLl ⊢
  have HN2 := hid hn
  clear hn HN
  have hne : ¬ L = [] := fun h => by
    have := (HLM.out (a0 % 512)).2 ⟨by omega, by omega, by rw [(dist_zero _ _).2 rfl]; omega⟩
    rw [h] at this; cases this
  rcases hR with hR | ⟨b, rfl, hlb, hcell⟩
  · exact absurd hR hne
  rw [← HN2.out] at hcell
  have HC := hid hcell
  clear hcell hne
  go_wp2_with fail
  go_loopw [15, 16] (fun f i wr => ∃ (k m : Nat), k ≤ n ∧ i = .int .i64 k ∧ f = .bool (decide (a1 % 512 ∈ L.take k)) ∧ wr = w3.drewN m)
    (fun _ i _ => n - (intOf i).toNat)
  case atStart => exact ⟨0, 0, Nat.zero_le _, rfl, by simp, rfl⟩
  case round =>
    obtain ⟨k, m, hk, rfl, rfl, rfl⟩ := hrel
    by_cases hlt : k < n
    · have hkl : k < L.length := by rw [← HN2.out]; exact hlt
      have hcx : w3.cell? ⟨b, k, none⟩ = some (.int .i64 (L[k]?.getD 0)) := HC.out k hlt
      rw [List.getElem?_eq_getElem hkl] at hcx
      simp only [Option.getD_some] at hcx
      obtain ⟨x, hx⟩ : ∃ x, L[k] = x := ⟨_, rfl⟩
      rw [hx] at hcx
      obtain ⟨f, hf⟩ : ∃ f, decide (a1 % 512 ∈ L.take k) = f := ⟨_, rfl⟩
      rw [hf]
      have HX := hid hx
      have HF := hid hf
      clear hx hf
      have hsn : decide (a1 % 512 ∈ L.take (k + 1)) = (f || (x == a1 % 512)) := by
        rw [List.take_succ_eq_append_getElem hkl, HX.out, ← HF.out, Bool.eq_iff_iff]
        simp only [decide_eq_true_eq, Bool.or_eq_true, beq_iff_eq, List.mem_append, List.mem_singleton]
        rw [eq_comm (a := a1 % 512) (b := x)]
      have HS := hid hsn
      clear hsn
      by_cases h0 : k = 0
      · subst h0
        cases f
        · by_cases hxb : (x == a1 % 512) = true
          · go_wp2
            go_quiet (fail)
            go_wp2
            go_roundw
            case rel => exact ⟨1, _, by omega, by go_num, by rw [HS.out]; simp [hxb], rfl⟩
            case measure => simp [intOf]; omega
          · have hxb : (x == a1 % 512) = false := by simpa using hxb
            go_wp2
            go_quiet (fail)
            go_wp2
            go_roundw
            case rel => exact ⟨1, _, by omega, by go_num, by rw [HS.out]; simp [hxb], rfl⟩
            case measure => simp [intOf]; omega
        · go_wp2
          go_quiet (fail)
          go_wp2
          go_roundw
          case rel => exact ⟨1, _, by omega, by go_num, by rw [HS.out]; simp, rfl⟩
          case measure => simp [intOf]; omega
      · obtain ⟨j, rfl⟩ : ∃ j, k = j + 1 := ⟨k - 1, by omega⟩
        have hjl : j < L.length := by omega
        have hcy : w3.cell? ⟨b, j, none⟩ = some (.int .i64 (L[j]?.getD 0)) := HC.out j (by omega)
        rw [List.getElem?_eq_getElem hjl] at hcy
        simp only [Option.getD_some] at hcy
        obtain ⟨y, hy⟩ : ∃ y, L[j] = y := ⟨_, rfl⟩
        rw [hy] at hcy
        have hyx : y < x := by
          have := List.pairwise_iff_getElem.1 HLP.out j (j + 1) hjl hkl (by omega)
          rw [HX.out, hy] at this; exact this
        clear hy h0
        have hj0 : (0 : Int) < ((j + 1 : Nat) : Int) := by omega
        cases f
        · by_cases hxb : (x == a1 % 512) = true
          · go_wp2
            go_quiet (fail)
            go_wp2
            go_roundw
            case rel => exact ⟨j + 2, _, by omega, by go_num, by rw [HS.out]; simp [hxb], rfl⟩
            case measure => simp [intOf]; omega
          · have hxb : (x == a1 % 512) = false := by simpa using hxb
            go_wp2
            go_quiet (fail)
            go_wp2
            go_roundw
            case rel => exact ⟨j + 2, _, by omega, by go_num, by rw [HS.out]; simp [hxb], rfl⟩
            case measure => simp [intOf]; omega
        · go_wp2
          go_quiet (fail)
          go_wp2
          go_roundw
          case rel => exact ⟨j + 2, _, by omega, by go_num, by rw [HS.out]; simp, rfl⟩
          case measure => simp [intOf]; omega
    · obtain rfl : k = n := by omega
      have hfd : decide (a1 % 512 ∈ L.take k) = decide (d ≤ a2 % 32) := by
        rw [List.take_of_length_le (by rw [HN2.out]; exact Nat.le_refl _), decide_eq_decide, HLM.out, HD.out]
        exact ⟨fun h => h.2.2, fun h => ⟨by omega, by omega, h⟩⟩
      rw [hfd]
      clear hfd
      go_wp2
      all_goals
        go_ret
        refine ⟨ret_bool ?_, bl HB.out (dN _ _)⟩
        have hkl := HLN.out
        rw [← HN2.out] at hkl
        have hw : ∀ z : Int, (k : Int) = z → (k : Int) = wrap64 z := by
          intro z hz; rw [← hz]; unfold wrap64; omega
        rw [beq_iff_eq]
        apply hw
        rw [hkl]
        first
          | (show _ = (32 : Int) * 16; congr 1 <;> omega)
          | (congr 1 <;> omega)

theorem own : ownKnob Try.prog.godebug = none := by kernel_rfl
theorem laidOut : laidOutB Try.prog = true := by kernel_rfl
set_option maxRecDepth 100000 in
theorem lifted (os : Os) (started : os.Started) (H : Type) (enc : TypeId × Value → H) :
    ReturnsInHanded {} Try.checked os 6 .any (Rows.skyNearSpec.pre6 enc Try.prog Try.f6 Rows.skyNearRow.domain false) (Rows.skyNearSpec.post enc Try.prog Try.f6 false true false false) := by
  refine returnsInHanded_of_change (C := Try.checked) own started (by kernel_rfl) Try.func6
    (ChangeSpec.witness6 (enc := enc) (C := Try.checked) false ⟨#[], #[.int .u16 0, .int .u16 0, .int .u8 0], []⟩ 8 (by kernel_rfl) (by kernel_rfl) (by kernel_rfl) (by kernel_rfl)) ?_
  intro W base args ds gs before hval0 hW hcnd _
  have hval : ∀ (j : Nat) t v, Try.f6.params[j]? = some t → args[j]? = some v → Value.okWide Try.prog W .any base t v := hval0
  have hW' := hW
  obtain ⟨p, q, hA0, hV, rfl, hfz, hnd⟩ := hW
  have hA : DataW.TrodAll enc Try.prog W 0 (fun _ => true) true Try.f6.params.toList args.toList ds p := hA0
  rw [Try.params6] at hA hval
  obtain ⟨v0, vs0, d0, ds0, p0, q0, hargs, rfl, rfl, h0, r0⟩ := trodAll_cons hA
  obtain ⟨v1, vs1, d1, ds1, p1, q1, rfl, rfl, rfl, h1, r1⟩ := trodAll_cons r0
  obtain ⟨v2, vs2, d2, ds2, p2, q2, rfl, rfl, rfl, h2, r2⟩ := trodAll_cons r1
  obtain ⟨rfl, rfl, rfl⟩ := trodAll_nil r2
  obtain rfl : args = #[v0, v1, v2] := by cases args; simp_all
  obtain ⟨rfl, rfl⟩ := trodVars_none hV
  obtain ⟨a0, rfl, rfl, rfl, w0⟩ := open_int Try.underlying36 (hval 0 36 v0 rfl rfl) h0
  obtain ⟨a1, rfl, rfl, rfl, w1⟩ := open_int Try.underlying36 (hval 1 36 v1 rfl rfl) h1
  obtain ⟨a2, rfl, rfl, rfl, w2⟩ := open_int Try.underlying5 (hval 2 5 v2 rfl rfl) h2
  clear hA0 hval0
  refine (walk a0 w0 a1 w1 a2 w2 W).mono fun e W' ⟨he, bel⟩ => ?_
  subst he
  exact ⟨_, rfl, _, _, _, [], _, [], hW', trodAll_mk1 (shut_bool Try.underlying4 _), (trodAll_cons_mk (shut_int Try.underlying36 w0) (trodAll_cons_mk (shut_int Try.underlying36 w1) (trodAll_cons_mk (shut_int Try.underlying5 w2) trodAll_mk0))), rfl, bel.frame _, fun h => by cases h⟩

theorem over : Rows.skyNearRow.holds Try.pinned (OpenSpec.ofChange Rows.skyNearSpec) :=
  OpenClaim.holds_of_wide 6 Try.f6 rfl rfl rfl rfl rfl rfl rfl ⟨rfl, rfl, rfl, rfl, rfl⟩ rfl rfl rfl rfl rfl (by kernel_rfl) Try.func6 (by kernel_rfl)
    (of_decide_eq_true (by kernel_rfl)) (by unfold Func.isWrapper; first | (rw [if_pos (by decide +kernel)]; kernel_rfl) | (rw [if_neg (by decide +kernel)]; exact ⟨rfl, rfl⟩))
    (fun os started H enc _ => lifted os started H enc)
theorem proved : Rows.SkyNearSaid := over
#print axioms proved
end Go.Proofs.Ytfddnmibjaibhaa.skyNear
