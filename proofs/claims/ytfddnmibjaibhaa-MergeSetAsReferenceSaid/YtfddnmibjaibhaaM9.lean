/- (*Set).Groups of package merge. -/
import Derived.Test.YtfddnmibjaibhaaM8
namespace Go.Proofs.Ytfddnmibjaibhaa
open Go.RowKit Go.Maps

theorem Try.info31 : (Try.prog.info? 31).map (fun i => (i.zero, i.size, i.bytes)) = some (some (.slice none 0 0), 1, 24) := by kernel_rfl
theorem zero3 (w : World) : (zeroValue 3).run Try.prog w = .ok (.int .i64 0) w := by kernel_rfl
theorem key3 : Keyed Try.prog 3 := int_keyed Try.underlying3

/-- append of one int, and where the new slice lies -/
theorem wp_app_int_at {ops : Array Oper} {rest : List Oper} {o : Oper} {a : Act} {Q : Exit → Act → World → Prop} {w : World} (hgd : o.guard = none) (s x : Operand)
    (ho : o.op = .call { callee := .builtin .append, args := #[s, x], argTypes := #[31, 31] })
    (base : Nat) (v : Value) (n : Nat) (xs : List Value) (hs : a.eval s = v) (hown : w.ownsRow base 3 1 v n xs)
    (b c : Nat) (z : Int) (hx : a.eval x = .slice (some ⟨b, 0, none⟩) 1 c) (hcell : w.cell? ⟨b, 0, none⟩ = some (.int .i64 z))
    (hn : n ≤ 1000000) (hbase : base ≤ w.heap.size)
    (h : ∀ v' w', w'.ownsRow base 3 1 v' (n + 1) (xs ++ [.int .i64 z]) → w.grownBy w' v.ownBlock → (v'.ownBlock = v.ownBlock ∨ v'.ownBlock = some w.heap.size) → wpList Try.prog ops Q rest (a.put o.dst v') w') : wpList Try.prog ops Q (o :: rest) a w := by
  obtain ⟨i0, hi, hz0, hz1, hz2⟩ := info_parts Try.info3
  refine wpList_append_own_at _ hgd s x 31 ho base 3 i0 (.int .i64 0) 1 8 Try.underlying31 hi hz0 hz1 hz2 rfl (by decide) v n xs hs hown ⟨b, 0, none⟩ 1 c [.int .i64 z] hx rfl ?_ ?_ ?_ ?_ hbase ?_
  · intro j u hj
    match j, hj with
    | 0, hj => simp at hj; subst hj; simpa [Addr.add] using hcell
  · intro u hu; simp at hu; subst hu; rfl
  · unfold maxLen; omega
  · omega
  · intro v' w' h1 h2 _ h4
    exact h v' w' h1 h2 h4
/-- append of one slice header, and where the new slice lies -/
theorem wp_app_hdr {ops : Array Oper} {rest : List Oper} {o : Oper} {a : Act} {Q : Exit → Act → World → Prop} {w : World} (hgd : o.guard = none) (s x : Operand)
    (ho : o.op = .call { callee := .builtin .append, args := #[s, x], argTypes := #[44, 44] })
    (base : Nat) (v : Value) (n : Nat) (xs : List Value) (hs : a.eval s = v) (hown : w.ownsRow base 31 1 v n xs)
    (b c : Nat) (A : Option Addr) (m k : Nat) (hx : a.eval x = .slice (some ⟨b, 0, none⟩) 1 c) (hcell : w.cell? ⟨b, 0, none⟩ = some (.slice A m k))
    (hn : n ≤ 1000000) (hbase : base ≤ w.heap.size)
    (h : ∀ v' w', w'.ownsRow base 31 1 v' (n + 1) (xs ++ [.slice A m k]) → w.grownBy w' v.ownBlock → (v'.ownBlock = v.ownBlock ∨ v'.ownBlock = some w.heap.size) → wpList Try.prog ops Q rest (a.put o.dst v') w') : wpList Try.prog ops Q (o :: rest) a w := by
  obtain ⟨i0, hi, hz0, hz1, hz2⟩ := info_parts Try.info31
  refine wpList_append_own_at _ hgd s x 44 ho base 31 i0 (.slice none 0 0) 1 24 Try.underlying44 hi hz0 hz1 hz2 rfl (by decide) v n xs hs hown ⟨b, 0, none⟩ 1 c [.slice A m k] hx rfl ?_ ?_ ?_ ?_ hbase ?_
  · intro j u hj
    match j, hj with
    | 0, hj => simp at hj; subst hj; simpa [Addr.add] using hcell
  · intro u hu; simp at hu; subst hu; rfl
  · unfold maxLen; omega
  · omega
  · intro v' w' h1 h2 _ h4
    exact h v' w' h1 h2 h4

/-- the set while its groups are read -/
def Sr (w : World) (p : Nat) (win : Int) (v : Value) (n : Nat) (S c d : Nat → Nat) : Prop := ∃ P, UF n P S c d ∧ SetB w p win v P S
theorem Sr.kept {w w' : World} {p : Nat} {win : Int} {v : Value} {n : Nat} {S c d : Nat → Nat} {K : Nat → Prop} (h : Sr w p win v n S c d) (hf : Fr K w w') (hp : ¬ K p) : Sr w' p win v n S c d := by
  obtain ⟨P, h1, h2⟩ := h
  exact ⟨P, h1, World.rowIs.of_block h2 (hf.block p (World.rowIs.lt h2) hp)⟩
theorem root_sr {p : Nat} {win : Int} {v : Value} {n : Nat} {S c d : Nat → Nat} {i r : Nat} (hr : c i = r) (w : World) (h : Sr w p win v n S c d) (hn : n ≤ 200) (hi : i < n) :
    Calls Try.prog 56 #[.pointer (some ⟨p, 0, none⟩), .int .i64 (i : Nat)] w fun e w' => e = .returned (.int .i64 (r : Nat)) ∧ Sr w' p win v n S c d ∧ w.grownBy w' (some p) ∧ w'.heap.size = w.heap.size := by
  obtain ⟨P, h1, h2⟩ := h
  refine (root_is hr w h1 hn hi h2).mono ?_
  rintro e w' ⟨rfl, P', g1, g2, g3, g4⟩
  exact ⟨rfl, ⟨P', g1, g2⟩, g3, g4⟩
def Mp (w : World) (B n : Nat) (c : Nat → Nat) : Prop := ∃ D : DataW Unit, w.ownsMap Try.prog 3 (plainElem Try.prog 3) B n D ∧ MapOk D n c
theorem Mp.kept {w w' : World} {B n : Nat} {c : Nat → Nat} {r : Option Nat} (h : Mp w B n c) (hg : w.grownBy w' r) (hne : some B ≠ r) : Mp w' B n c := by
  obtain ⟨D, h1, h2⟩ := h; exact ⟨D, h1.kept hg hne, h2⟩

theorem Mp.keptF {w w' : World} {B n : Nat} {c : Nat → Nat} {K : Nat → Prop} (h : Mp w B n c) (hf : Fr K w w') (hne : ¬ K B) : Mp w' B n c := by
  obtain ⟨D, h1, h2⟩ := h
  have hl := h1.lt
  obtain ⟨es, clock, hb, r⟩ := h1
  exact ⟨D, ⟨es, clock, by rw [hf.block B hl hne]; exact hb, r⟩, h2⟩

/-- group q of groups in memory, and the way back behind an append to it -/
theorem og_open {w : World} {B : Nat} {v : Value} {gs : List (List Nat)} (h : OG w B v gs) {q : Nat} {l : List Nat} (hl : gs[q]? = some l) :
    ∃ gv cap A3 cap3, v = .slice (some ⟨gv, 0, none⟩) gs.length cap ∧ w.cell? ⟨gv, q, none⟩ = some (.slice A3 l.length cap3) ∧ w.ownsRow B 3 1 (.slice A3 l.length cap3) l.length (nv l) ∧
      ∀ (o : Obj) (h' : Value) (w' : World) (i : Nat), w'.ownsRow B 3 1 h' (l.length + 1) (nv l ++ [.int .i64 (i : Nat)]) → (w.alloc o).grownBy w' (Value.slice A3 l.length cap3).ownBlock → (h'.ownBlock = (Value.slice A3 l.length cap3).ownBlock ∨ h'.ownBlock = some (w.heap.size + 1)) →
        w'.cell? ⟨gv, q, none⟩ = some (.slice A3 l.length cap3) ∧ w'.frozen? ⟨gv, q, none⟩ = false ∧ OG (w'.setCell ⟨gv, q, none⟩ h') B v (gs.set q (l ++ [i])) ∧ Fr (fun x => B ≤ x) w (w'.setCell ⟨gv, q, none⟩ h') := by
  obtain ⟨hs, h1, h2, h3, h4, h5⟩ := h
  have hq : q < gs.length := (List.getElem?_eq_some_iff.1 hl).1
  obtain ⟨A, cap, rfl, hA⟩ := own_slice h2
  obtain ⟨gv, rfl⟩ := hA (by omega)
  have hk : hs[q]? = some (hs[q]'(by omega)) := List.getElem?_eq_getElem (by omega)
  have ho := h3 q _ l hk hl
  obtain ⟨A3, cap3, e3, _⟩ := own_slice ho
  rw [e3] at ho hk
  refine ⟨gv, cap, A3, cap3, rfl, ?_, ho, ?_⟩
  · rw [h2.cellAt _ (by omega)]; exact hk
  · intro o h' w' i hown hg hloc
    have hF : Fr (fun x => (Value.slice A3 l.length cap3).ownBlock = some x) w w' := ((Fr.refl (fun x => (Value.slice A3 l.length cap3).ownBlock = some x) w).alloc o).grown hg (fun k hk => .inl hk)
    have hv2 := hF.own h2 (fun g hg' e => h4 q _ g hk e hg')
    refine ⟨?_, hv2.frozenAt q, OG.upd h1 h2 h3 h4 h5 rfl hk hl hown hg hloc, ?_⟩
    · rw [hv2.cellAt _ (by omega)]; exact hk
    · exact (hF.mono (fun k hk => .inl (ho.lt k hk).1)).setCell gv q h' (.inl (h2.lt gv rfl).1)
theorem og_push {w : World} {B : Nat} {v : Value} {gs : List (List Nat)} (h : OG w B v gs) : ∃ hs, w.ownsRow B 31 1 v gs.length hs ∧ ∀ (o : Obj) (v' : Value) (w' : World), w'.ownsRow B 31 1 v' (gs.length + 1) (hs ++ [.slice none 0 0]) → (w.alloc o).grownBy w' v.ownBlock →
    (v'.ownBlock = v.ownBlock ∨ v'.ownBlock = some (w.heap.size + 1)) → OG w' B v' (gs ++ [[]]) ∧ Fr (fun x => B ≤ x) w w' := by
  obtain ⟨hs, h1, h2, h3, h4, h5⟩ := h
  refine ⟨hs, h2, fun o v' w' hown hg hl => ⟨OG.push h1 h2 h3 h4 h5 hown hg hl, ?_⟩⟩
  exact ((Fr.refl (fun x => B ≤ x) w).alloc o).grown hg (fun k hk => .inl (h2.lt k hk).1)

set_option maxHeartbeats 3200000 in
set_option maxRecDepth 100000 in
theorem SGroups_any (p : Nat) (win : Int) (l : List Al) (v : Value) (w : World) (h : SetAt w p win l v) :
    Calls Try.prog 34 #[.pointer (some ⟨p, 0, none⟩)] w fun e w' => ∃ out, e = .returned out ∧ OG w' (w.heap.size + 1) out (gl l.length (col win l)) ∧ SetAt w' p win l v ∧ Fr (fun b => b = p) w w' := by
  obtain ⟨n, hn⟩ : ∃ n, l.length = n := ⟨_, rfl⟩
  have HH := hid h
  have hpl := h.uf.lt
  have hle := h.le
  have hvl := h.own.lt
  obtain ⟨A, cap, rfl, hA⟩ := own_slice h.own
  obtain ⟨P, S, c, d, hu, hb, hl⟩ := h.uf
  have egl : gl l.length (col win l) = gl n c := by rw [← hn]; exact (gl_congr (hl.same (col_least win l))).symm
  rw [egl]
  rw [hn] at hu hl hb hle
  have ca := hb.als
  have HSR : Hid (Sr w p win (.slice A n cap) n S c d) := ⟨P, hu, hb⟩
  have HL := hid hl
  have HN := hid hn
  have HUF := hid hu
  have HVL := hid hvl
  rw [hn] at HVL HH
  clear h hu hb hl hn egl hvl
  have hmm := @run_makeMap Try.prog
  go_enter Try.func34, Try.ntmps34
  go_wp2_with fail
  clear hmm ca
  go_loopw [3, 17] (fun v i wr => ∃ k : Nat, k ≤ n ∧ i = .int .i64 (k : Nat) ∧ Hid (OG wr (w.heap.size + 1) v (gl k c)) ∧ Hid (Mp wr w.heap.size k c) ∧ Hid (Sr wr p win (.slice A n cap) n S c d) ∧ Hid (Fr (fun b => b = p) w wr)) (fun _ i _ => n - (intOf i).toNat)
  case atStart => exact ⟨0, Nat.zero_le _, rfl, OG.nil _ _, ⟨_, World.ownsMap_made _ _ _ _, MapOk.zero c⟩, HSR.out.kept (K := fun _ => False) ((Fr.refl _ _).alloc _) id, (Fr.refl _ _).alloc _⟩
  case round =>
    obtain ⟨k, hk, rfl, hO, hM, hS, hF⟩ := hrel
    by_cases hkn : k < n
    · obtain ⟨r, hr⟩ : ∃ r, c k = r := ⟨_, rfl⟩
      have HRr := hid hr
      clear hr
      go_wp2_with fail
      refine (root_sr HRr.out _ hS.out hle hkn).mono ?_
      rintro e w1 ⟨rfl, hs1, hg1, hz1⟩
      have hF1 : Fr (fun b => b = p) wr w1 := (Fr.refl (fun b => b = p) wr).grown hg1 (fun k hk => by cases hk; exact .inl rfl)
      have HS1 := hid hs1
      have HO1 := hid (hO.out.kept hF1 (fun k hk => by omega))
      have HM1 := hid (hM.out.keptF hF1 (by omega))
      have HF1 := hid (hF.out.trans hF1 (fun k h => .inl h))
      have hw1 : w.heap.size + 1 ≤ w1.heap.size := by obtain ⟨D, h1, _⟩ := HM1.out; exact h1.lt
      clear hs1 hg1 hz1 hF1 hO hM hS hF
      have hrn : r < n := by rw [← HRr.out]; exact HUF.out.cb k hkn
      have hwf : (Lit.int .i64 (r : Nat)).wf = true := WalkArith.wf_i64 (by omega)
      have hkey := keyOf_int_mk Try.underlying3 hwf
      have hglk : (gl k c).length ≤ k := by rw [gl_length]; exact fr_le k c
      obtain ⟨D, hmap, hok⟩ := HM1.out
      by_cases hold : ∃ j, j < k ∧ c j = c k
      · obtain ⟨j, hj, hjc⟩ := hold
        obtain ⟨f, hf, hfc, _⟩ := fr_has k c j hj
        obtain ⟨q, hq, hqf⟩ := List.getElem_of_mem hf
        have hqg : q < (gl k c).length := by rw [gl_length]; exact hq
        have hcq : c (fr k c)[q] = c k := by rw [hqf, hfc, hjc]
        have hpos := hok.pos q hq
        rw [hcq, HRr.out] at hpos
        have hpos : D.atKey (.int .i64 (r : Nat)) (.lit (.int .i64 0)) = .lit (.int .i64 (q : Nat)) := hpos
        have hhas : Maps.has D (.int .i64 (r : Nat)) = true := (hok.has r).2 ⟨j, hj, hjc.trans HRr.out⟩
        have HPOS := hid hpos
        have HNX := hid (gl_old hqg hcq)
        have HOK := hid (hok.old hj hjc)
        obtain ⟨gl0, hgl0⟩ : ∃ gl0, (gl k c)[q] = gl0 := ⟨_, rfl⟩
        rw [hgl0] at HNX
        have hlq : (gl k c)[q]? = some gl0 := by rw [List.getElem?_eq_getElem hqg, hgl0]
        have hl0 : gl0.length ≤ k := by
          have : gl0 = mem k c (c (fr k c)[q]) := by rw [← hgl0]; simp [gl]
          rw [this]; exact mem_le _ _ _
        obtain ⟨G, hG⟩ : ∃ G, (gl k c).length = G := ⟨_, rfl⟩
        rw [hG] at hqg hglk
        obtain ⟨gv, gcap, A3, cap3, hv, cq, hoq, hback⟩ := og_open HO1.out hlq
        rw [hG] at hv
        subst hv
        have HBK := hid hback
        have HMAP := hid hmap
        clear hback hpos hf hfc hqf hcq hq hgl0 hlq hjc hok hmap hG HO1
        go_wp2_with (at_lookup; refine wpList_lookup_own_ok_int _ rfl _ _ 80 rfl 3 3 .i64 key3 Try.underlying80 Try.underlying3 (zero3 _) w.heap.size k D rfl HMAP.out _ _ rfl hkey ?_)
        intro cc hat hwc
        obtain rfl : cc = (q : Int) := by rw [HPOS.out] at hat; injection hat with h; injection h with _ h; exact h.symm
        clear hat hwc
        go_wp2_with (at_builtin; refine wp_app_int_at rfl _ _ rfl (w.heap.size + 1) _ _ _ rfl (hoq.alloc _) _ _ (k : Nat) rfl (by simp) (by omega) (by simp; omega) ?_)
        intro h' w3 hown' hgrow hloc
        obtain ⟨c3, f3, hO3, hF3⟩ := HBK.out _ h' w3 k hown' hgrow hloc
        obtain ⟨A4, cap4, rfl, _⟩ := own_slice hown'
        have HO3 : Hid (OG (w3.setCell ⟨gv, q, none⟩ (.slice A4 (gl0.length + 1) cap4)) (w.heap.size + 1) (.slice (some ⟨gv, 0, none⟩) G gcap) (gl (k + 1) c)) := by unfold Hid; rw [HNX.out]; exact hO3
        have HM3 : Hid (Mp (w3.setCell ⟨gv, q, none⟩ (.slice A4 (gl0.length + 1) cap4)) w.heap.size (k + 1) c) := Mp.keptF ⟨D, HMAP.out.mono (by omega), HOK.out⟩ hF3 (by omega)
        have HS3 := hid (HS1.out.kept hF3 (by omega))
        have HF3 := hid (HF1.out.trans hF3 (fun k h => .inr (by omega)))
        clear hown' hgrow hloc hO3 hF3 HBK
        go_wp2
        go_roundw
        case rel => exact ⟨k + 1, by omega, by go_num, HO3, HM3, HS3, HF3⟩
        case measure => simp [intOf]; omega
      · have hnew : ∀ j, j < k → c j ≠ c k := fun j hj e => hold ⟨j, hj, e⟩
        have hhas : Maps.has D (.int .i64 (r : Nat)) = false := by
          cases h : Maps.has D (.int .i64 (r : Nat)) with
          | false => rfl
          | true => exact absurd ((hok.has r).1 h) (by rintro ⟨j, hj, e⟩; exact hnew j hj (e.trans HRr.out.symm))
        have hok2 := hok.new hmap.isMap hnew
        rw [HRr.out] at hok2
        obtain ⟨l0, hl0⟩ : ∃ l0 : List Nat, l0 = [] := ⟨_, rfl⟩
        obtain ⟨G, hG⟩ : ∃ G, (gl k c).length = G := ⟨_, rfl⟩
        have HNX : Hid (gl (k + 1) c = (gl k c ++ [l0]).set G (l0 ++ [k])) := by
          unfold Hid; rw [gl_new hnew, hl0, List.set_append_right _ _ (by omega), hG, Nat.sub_self]; rfl
        have hl0k : l0.length ≤ k := by rw [hl0]; exact Nat.zero_le _
        have hlG : (gl k c ++ [l0])[G]? = some l0 := by rw [List.getElem?_append_right (by omega), hG, Nat.sub_self]; rfl
        rw [← gl_length, hG] at hok2
        rw [hG] at hglk
        have hsh : ∃ A2 cap2, u3 = .slice A2 G cap2 := by obtain ⟨_, _, h2, _⟩ := HO1.out; rw [hG] at h2; obtain ⟨A2, cap2, e, _⟩ := own_slice h2; exact ⟨A2, cap2, e⟩
        obtain ⟨A2, cap2, rfl⟩ := hsh
        have HOK := hid hok2
        have HMAP := hid hmap
        have HG := hid hG
        have HL0 := hid hl0
        have HLG := hid hlG
        clear hnew hok2 hok hmap hG hl0 hlG hold
        go_wp2_with (at_lookup; refine wpList_lookup_own_ok_int _ rfl _ _ 80 rfl 3 3 .i64 key3 Try.underlying80 Try.underlying3 (zero3 _) w.heap.size k D rfl HMAP.out _ _ rfl hkey ?_)
        intro cc hat hwc
        clear hat hwc
        go_wp2_with (at_mapUpdate; refine wpList_mapUpdate_own _ rfl _ _ _ 80 rfl 3 3 key3 Try.underlying80 _ w.heap.size k D rfl HMAP.out (by unfold maxLen; omega) _ _ _ rfl rfl hkey (.lit (.int .i64 (G : Nat))) [] (plainElem_int Try.underlying3 (WalkArith.wf_i64 (by omega))) ?_)
        intro w2 hmap2 hgrow2
        have hF2 : Fr (fun b => b = w.heap.size) w1 w2 := (Fr.refl (fun b => b = w.heap.size) w1).grown hgrow2 (fun k hk => by cases hk; exact .inl rfl)
        have HM2 : Hid (Mp w2 w.heap.size (k + 1) c) := ⟨_, hmap2, HOK.out⟩
        have HS2 := hid (HS1.out.kept hF2 (by omega))
        have HO2 := hid (HO1.out.kept hF2 (fun x hx => by omega))
        have HF2 := hid (HF1.out.trans hF2 (fun k h => .inr (by omega)))
        have hw2 : w.heap.size + 1 ≤ w2.heap.size := Nat.le_trans hw1 hF2.size
        clear hmap2 hgrow2 hF2 HS1 HO1 HF1 HM1 HMAP HOK hw1
        obtain ⟨hs, hown, hback⟩ := og_push HO2.out
        rw [HG.out] at hown hback
        have HBK := hid hback
        clear hback
        go_wp2_with (at_builtin; refine wp_app_hdr rfl _ _ rfl (w.heap.size + 1) _ _ _ rfl (hown.alloc _) _ _ none 0 0 rfl (by simp) (by omega) (by simp; omega) ?_)
        intro v' w3 hown' hgrow' hloc'
        obtain ⟨hO3, hF3⟩ := HBK.out _ v' w3 hown' hgrow' (by simpa using hloc')
        have HM3 := hid (HM2.out.keptF hF3 (by omega))
        have HS3 := hid (HS2.out.kept hF3 (by omega))
        have HF3 := hid (HF2.out.trans hF3 (fun k h => .inr (by omega)))
        have hw3 : w.heap.size + 1 ≤ w3.heap.size := Nat.le_trans hw2 hF3.size
        rw [← HL0.out] at hO3
        obtain ⟨gv, gcap, A3, cap3, hv, cq, hoq, hback2⟩ := og_open hO3 HLG.out
        rw [List.length_append, HG.out, List.length_singleton] at hv
        subst hv
        have HBK2 := hid hback2
        clear hback2 hown' hgrow' hloc' hO3 hF3 HBK hown HM2 HS2 HF2 HO2 hw2
        go_wp2_with (at_builtin; refine wp_app_int_at rfl _ _ rfl (w.heap.size + 1) _ _ _ rfl (hoq.alloc _) _ _ (k : Nat) rfl (by simp) (by omega) (by simp; omega) ?_)
        intro h' w4 hown' hgrow hloc
        obtain ⟨c3, f3, hO4, hF4⟩ := HBK2.out _ h' w4 k hown' hgrow hloc
        obtain ⟨A4, cap4, rfl, _⟩ := own_slice hown'
        have HO4 : Hid (OG (w4.setCell ⟨gv, G, none⟩ (.slice A4 (l0.length + 1) cap4)) (w.heap.size + 1) (.slice (some ⟨gv, 0, none⟩) (G + 1) gcap) (gl (k + 1) c)) := by unfold Hid; rw [HNX.out]; exact hO4
        have HM4 := hid (HM3.out.keptF hF4 (by omega))
        have HS4 := hid (HS3.out.kept hF4 (by omega))
        have HF4 := hid (HF3.out.trans hF4 (fun k h => .inr (by omega)))
        clear hown' hgrow hloc hO4 hF4 HBK2
        go_wp2
        go_roundw
        case rel => exact ⟨k + 1, by omega, by go_num, HO4, HM4, HS4, HF4⟩
        case measure => simp [intOf]; omega
    · obtain rfl : k = n := by omega
      have hset : SetAt wr p win l (.slice A k cap) := by
        obtain ⟨P', g1, g2⟩ := hS.out
        have hb := HH.out
        refine ⟨by rw [HN.out]; exact ⟨P', S, c, d, g1, g2, HL.out⟩, hb.ok, hF.out.own hb.own (fun g hg e => by have := (HVL.out g hg).1; omega), hb.le⟩
      have HSET := hid hset
      clear hset
      go_wp2
      go_ret
      exact ⟨_, rfl, hO.out, by rw [HN.out]; exact HSET.out, hF.out⟩
end Go.Proofs.Ytfddnmibjaibhaa
