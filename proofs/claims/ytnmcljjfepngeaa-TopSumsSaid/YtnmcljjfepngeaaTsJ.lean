/- walks of package nimsum: (*valuer).value at int -/
import Derived.Test.YtnmcljjfepngeaaTsI
import Derived.Deep.RegionHeld3
namespace Go.Proofs.Ytnmcljjfepngeaa
open Go.RowKit Go.Maps
set_option linter.unusedVariables false

set_option maxHeartbeats 3200000 in
set_option maxRecDepth 100000 in
theorem value_int_step (q : Nat) (gm : GmOk (hN q) uH (vH q) id) (hd : ∀ s ∈ uH, domI s) (hnext : ∀ s ∈ uH, ∀ W, Calls Try.prog 34 #[.agg #[.int .i64 q], encI s] W fun e w' => ∃ u, e = .returned u ∧ RowOf encI w' u (hN q s) ∧ Ext W w') (hvb : ∀ s ∈ uH, (vH q) s < 1000) (hnl : ∀ s ∈ uH, ((hN q) s).length ≤ 20000) (most : Nat) (hm1 : 2 * (uH).length < most) (hm2 : most ≤ 20000) (p b r : Nat)
    (ih : ∀ (s : Nat) (m : Nat → Option Int) (n : Nat) (w : World), s ∈ uH → id s < r → VS Try.prog 3 encI domI uH w p b (.iface 26 (.agg #[.int .i64 (q : Int)])) most n m → memoOk uH (vH q) id (id s) m →
    Calls Try.prog 15 #[.pointer (some ⟨p, 0, none⟩), encI s] w fun e w' => e = .returned (.tuple #[.int .i64 ((vH q) s : Nat), .int .i64 0]) ∧ VPost Try.prog 3 encI domI uH (vH q) id p b (.iface 26 (.agg #[.int .i64 (q : Int)])) most s ((hN q) s) m w w') :
    ∀ (s : Nat) (m : Nat → Option Int) (n : Nat) (w : World), s ∈ uH → id s ≤ r → VS Try.prog 3 encI domI uH w p b (.iface 26 (.agg #[.int .i64 (q : Int)])) most n m → memoOk uH (vH q) id (id s) m →
    Calls Try.prog 15 #[.pointer (some ⟨p, 0, none⟩), encI s] w fun e w' => e = .returned (.tuple #[.int .i64 ((vH q) s : Nat), .int .i64 0]) ∧ VPost Try.prog 3 encI domI uH (vH q) id p b (.iface 26 (.agg #[.int .i64 (q : Int)])) most s ((hN q) s) m w w' := by
  intro s m n w0 hs hr hv0 hmo
  obtain ⟨w, rfl⟩ : ∃ w : World, w = w0 := ⟨_, rfl⟩
  have hv := hv0
  have X0 : Ext w w := Ext.refl _
  have hds := hd s hs
  cases hms : m s with
  | some k =>
    obtain ⟨_, hk⟩ := hmo s k hms
    have hkv : k = ((vH q) s : Int) := by
      rcases hk with hk | ⟨_, hk⟩
      · exact hk
      · exact absurd hk (Nat.lt_irrefl _)
    subst hkv
    have HF : Hid (oV (m s) = some (.int .i64 ((vH q) s : Nat))) := by show _ = _; rw [hms]; rfl
    have HV := Lib.hid hv
    have HX0 := Lib.hid X0
    have c2 := hv.c2
    have HMS := Lib.hid hms
    have HLK := Lib.hid (fun (W : World) (h : VS Try.prog 3 encI domI uH W p b (.iface 26 (.agg #[.int .i64 (q : Int)])) most n m) => h.mp.look keyE_nat Try.underlying65 (zeroI' W) hds HF.out)
    have hnn : ¬ (((vH q) s : Nat) : Int) < 0 := by omega
    obtain ⟨VV, hVV⟩ : ∃ VV, (vH q) s = VV := ⟨_, rfl⟩
    have HVV := Lib.hid hVV
    rw [hVV] at HLK hnn ⊢
    have hlk := HLK.out w (hv.ext (Ext.refl w))
    simp only [Option.getD_some, Option.isSome_some] at hlk
    clear hv hms hmo hv0 X0 ih hd hvb hnl gm hnext hr hm1 hm2 hVV HF HLK
    unfold encI at hlk ⊢
    go_enter Try.func15, Try.ntmps15
    go_wp2_with fail
    go_ret2
    exact ⟨rfl, m, n, HV.out.ext (Ext.refl w), Learnt.refl m, HMS.out, (fun h => by rw [HMS.out] at h; cases h), Gr.of (HX0.out.trans (Ext.refl w))⟩
  | none =>
    have HF : Hid (oV (m s) = none) := by show _ = _; rw [hms]; rfl
    have HLK := Lib.hid (fun (W : World) (h : VS Try.prog 3 encI domI uH W p b (.iface 26 (.agg #[.int .i64 (q : Int)])) most n m) => h.mp.look keyE_nat Try.underlying65 (zeroI' W) hds HF.out)
    have hlk := HLK.out w (hv.ext (Ext.refl w))
    simp only [Option.getD_none, Option.isSome_none] at hlk
    obtain ⟨j0, hj0, hlen⟩ := (hv.ext ((Ext.refl w).drew)).mp.len Try.underlying65
    have hwl := wgt_le uH m
    have hvn := hv.hn
    have hjm : ¬ (j0 : Int) = (most : Int) := by omega
    have hjb : ((j0 : Int) == (most : Int)) = false := by rw [beq_eq_false_iff_ne]; exact hjm
    have c0 := hv.c0
    have c1 := hv.c1
    have c2 := hv.c2
    obtain ⟨W2, hput, HV2, HG2⟩ := (hv.ext ((Ext.refl w).drew)).set keyE_nat Try.underlying65 (by unfold maxLen; omega) hs hds (-1) (by rw [hms]; exact kw_none (by omega))
    have HV := Lib.hid hv
    have HVM := Lib.hid HV2
    have HGM := Lib.hid HG2
    have HX0 := Lib.hid X0
    have HMS := Lib.hid hms
    have HH := Lib.hid hd
    have HMO := Lib.hid hmo
    have HGR := Lib.hid gm
    have HIH := Lib.hid ih
    have HCALL := Lib.hid (hnext s hs)
    have HVB := Lib.hid (hvb s hs)
    have HVB9 := Lib.hid hvb
    have HNL := Lib.hid (hnl s hs)
    have HR := Lib.hid hr
    have HS := Lib.hid hs
    clear hv hms hmo hv0 X0 ih hd hvb hnl gm hnext hr HF HLK HV2 HG2 hj0 hwl hvn hjm hs hds
    obtain ⟨C, hC⟩ : ∃ C, W2.heap.size = C := ⟨_, rfl⟩
    obtain ⟨W3, hW3⟩ : ∃ W3, W2.alloc (.map #[] 0) = W3 := ⟨_, rfl⟩
    have X3 : Ext W2 W3 := by rw [← hW3]; exact (Ext.refl W2).alloc _
    have HV3 := Lib.hid (HVM.out.ext X3)
    have hs0 : Seen W3 C 0 [] := by rw [← hW3, ← hC]; exact (MapG.made W2).cong fun k => (seenF_nil k).symm
    have HS3 := Lib.hid hs0
    have hG3 : Gr b w W3 := (Gr.of ((Ext.refl w).drew)).trans (HGM.out.trans (Gr.of X3))
    have hCw : w.heap.size ≤ C := by rw [← hC]; exact (HGM.out.size)
    have hbC : b ≠ C := by
      obtain ⟨es, ck, hb⟩ := HVM.out.mp.blk
      have := (Array.getElem?_eq_some_iff.1 hb).1
      omega
    have HG3 := Lib.hid hG3
    obtain ⟨LS, hLS⟩ : ∃ LS, (hN q) s = LS := ⟨_, rfl⟩
    have HLS := Lib.hid hLS
    rw [hLS] at HCALL HNL
    obtain ⟨V, hVV⟩ : ∃ V, (vH q) s = V := ⟨_, rfl⟩
    have HVV := Lib.hid hVV
    have HV9 : V < 1000 := by rw [← hVV]; exact HVB.out
    have HMX := isMex_iff.1 (HGR.out.mex s HS.out)
    rw [hLS, hVV] at HMX
    obtain ⟨hx1, hx2⟩ := HMX
    have HX1 := Lib.hid hx1
    have HX2 := Lib.hid hx2
    have HNI := HNL.out
    have HMW : Hid (2 * (uH).length < 20000) := by show _ < _; omega
    have d0 := HV3.out.c0
    have HCW := Lib.hid hCw
    have HBC := Lib.hid hbC
    clear hs0 hG3 X3 hCw hbC hLS hVV hx1 hx2
    unfold encI at hlk hput ⊢
    go_enter Try.func15, Try.ntmps15
    go_wp2_with fail
    go_region
    have hmm := @run_makeMap Try.prog
    go_wp2_with fail
    clear hmm hlk hlen hput
    refine (HCALL.out _).mono ?_
    rintro e w4 ⟨u4, rfl, hL4, X4⟩
    obtain ⟨ao, c, rfl, hal, hac⟩ := hL4.open
    have HR4 := Lib.hid hL4
    clear hL4 hac
    have HV4 := Lib.hid (HV3.out.ext X4)
    have HS4 := Lib.hid (MapG.ext HS3.out X4)
    have HG4 := Lib.hid (HG3.out.trans (Gr.of X4))
    clear X4 HV3 HS3 HG3 d0 c0 c1 c2
    go_wp2_with fail
    go_loopw [50] (fun iv wr => ∃ (i ns n' : Nat) (m' : Nat → Option Int), i ≤ LS.length ∧ iv = .int .i64 i ∧ Hid (VS Try.prog 3 encI domI uH wr p b (.iface 26 (.agg #[.int .i64 (q : Int)])) most n' m') ∧ Hid (Learnt uH (vH q) id (id s) (updM m s (-1)) m') ∧ Hid (Seen wr C ns ((LS.take i).map (vH q))) ∧ Hid (ns ≤ i) ∧ Hid (∀ t ∈ LS.take i, m' t = some ((vH q) t : Int)) ∧ Hid (RowOf encI wr (.slice ao LS.length c) LS) ∧ Hid (Gr b w wr)) (fun iv _ => LS.length - (intOf iv).toNat)
    case atStart => exact ⟨0, 0, _, _, Nat.zero_le _, rfl, HV4.out, Learnt.refl _, HS4.out, Nat.le_refl _, (by show ∀ t ∈ _, _; intro t ht; cases ht), HR4.out, HG4.out⟩
    case round =>
      clear HV4 HS4 HG4
      obtain ⟨i, ns, n', m', hi, rfl, HV5, HL5, HS5, HN5, HK5, HR5, HG5⟩ := hrel
      by_cases hlt : i < LS.length
      · obtain ⟨x, d1, d2, d3⟩ := get_lt hlt
        have hxm : x ∈ (hN q) s := by rw [HLS.out]; exact List.mem_of_getElem? d1.out
        obtain ⟨hxu, hxr⟩ := HGR.out.clo s HS.out x hxm
        obtain ⟨kb, off, rfl, hc0⟩ := Row.at HR5.out (j := i) (p := encI x) (by show _ = _; rw [List.getElem?_map, d1.out]; rfl)
        have hcell : wr.cell? ⟨kb, off + i, none⟩ = some (.int .i64 (x : Int)) := hc0
        have hii : (i : Int) < (LS.length : Int) := by omega
        have hmb : memoOk uH (vH q) id (id x) m' := ((HMO.out).busy HS.out hxr).learnt HL5.out
        have HI := Lib.hid (fun n2 W (h : VS Try.prog 3 encI domI uH W p b (.iface 26 (.agg #[.int .i64 (q : Int)])) most n2 m') => HIH.out x m' n2 W hxu (Nat.lt_of_lt_of_le hxr HR.out) h hmb)
        have hxv : (vH q) x < 1000 := by
          have := HVB9.out x hxu
          exact this
        have hwf : (Lit.int .i64 (((vH q) x : Nat) : Int)).wf = true := wf_nat (show _ < 1000000 by omega)
        have HXR := Lib.hid hxr
        have hnb : ns < maxLen := by have := HN5.out; have := HNI; unfold maxLen; omega
        obtain ⟨Y, hY⟩ : ∃ Y, (vH q) x = Y := ⟨_, rfl⟩
        have HY := Lib.hid hY
        rw [hY] at HI hwf hxv
        clear hxm hxu hxr hmb hY hc0
        go_wp2_with fail
        refine (HI.out _ _ (by exact HV5.out)).mono ?_
        rintro e w5 ⟨rfl, hp5⟩
        obtain ⟨m2, n2, hv5, hl5, hk5, _, hg5⟩ := hp5
        have HV6 := Lib.hid hv5
        have HL6 := Lib.hid (HL5.out.trans (hl5.mono HXR.out))
        have HK6 : Hid (∀ t ∈ LS.take (i + 1), m2 t = some ((vH q) t : Int)) := by
          show ∀ t ∈ _, _
          intro t ht
          rw [d3.out] at ht
          rcases List.mem_append.1 ht with ht | ht
          · exact hl5.old _ _ (HK5.out t ht)
          · rw [List.mem_singleton.1 ht]; exact hk5
        have HB0 := Lib.hid (HV5.out.mp.blk)
        have HS6 := Lib.hid (MapG.gr HS5.out (Gr.trans (Gr.of (by exact Ext.refl _)) hg5) HBC.out.symm)
        have HR6 : Hid (RowOf encI w5 (.slice (some ⟨kb, off, none⟩) LS.length c) LS) := by show RowOf encI w5 _ LS; exact Gr.rowM (Gr.trans (Gr.of (by exact Ext.refl _)) hg5) HB0.out HR5.out
        have HG6 := Lib.hid (HG5.out.trans (Gr.trans (Gr.of (by exact Ext.refl _)) hg5))
        clear hv5 hl5 hg5 hcell
        go_wp2_with (first | (at_mapUpdate; go_must (refine wp_put rfl rfl keyE_i Try.underlying76 rfl HS6.out hnb rfl hwf rfl ?_); intro w6 HM6 hg6))
        have HB1 := Lib.hid (HS6.out.blk)
        go_roundw
        case rel =>
          refine ⟨i + 1, ns + 1, n2, m2, by omega, by go_num, HV6.out.gr (Gr.by' hg6) HB1.out HBC.out, HL6.out, ?_, ?_, HK6.out, by show RowOf encI _ _ LS; exact Gr.rowM (Gr.by' hg6) HB1.out HR6.out, HG6.out.new (Gr.by' hg6) HCW.out⟩
          · show Seen _ _ _ _
            rw [d3.out, List.map_append, List.map_singleton, HY.out]
            exact HM6.cong fun k => seenF_snoc _ _ _
          · show _ ≤ _
            have := HN5.out
            omega
        case measure => simp [intOf]; omega
      · have hie : i = LS.length := by omega
        subst hie
        rw [List.take_length] at HS5 HK5
        have hge : ¬ (LS.length : Int) < (LS.length : Int) := by omega
        obtain ⟨w6, rfl⟩ : ∃ w6 : World, w6 = wr := ⟨_, rfl⟩
        have hmb : m' s = some (-1) := HL5.out.old s (-1) (by unfold updM; rw [if_pos rfl])
        obtain ⟨W7, hput, HV7, HG7⟩ := (HV5.out.ext (by exact Ext.refl _ : Ext w6 w6)).set keyE_nat Try.underlying65 (by have := HMW.out; unfold maxLen; omega) HS.out (HH.out s HS.out) (V : Int) (by rw [hmb]; exact kw_busy (by omega))
        have HP7 : Hid (VPost Try.prog 3 encI domI uH (vH q) id p b (.iface 26 (.agg #[.int .i64 (q : Int)])) most s ((hN q) s) m w W7) := by
          refine ⟨updM m' s ((vH q) s : Int), n' + 1, by rw [HVV.out]; exact HV7, learnt_done HS.out HMS.out HL5.out, ?_, (fun _ t ht => ?_), (Gr.of HX0.out).trans ((HG5.out.trans (Gr.of (by exact Ext.refl _))).trans HG7)⟩
          · unfold updM
            rw [if_pos rfl]
          · unfold updM
            by_cases hts : t = s
            · rw [if_pos hts, hts]
            · rw [if_neg hts]
              rw [HLS.out] at ht
              exact HK5.out t ht
        have e2 := (HV5.out.ext (by exact Ext.refl _ : Ext w6 w6)).c2
        have c2 := HV5.out.c2
        have HPUT := Lib.hid hput
        clear hmb HV7 HG7 hput
        go_wp2_with fail
        go_loopw [13] (fun jv wr => ∃ j : Nat, j ≤ V ∧ jv = .int .i64 j ∧ wr = w6) (fun jv _ => V - (intOf jv).toNat)
        case atStart => exact ⟨0, Nat.zero_le _, rfl, by first | rfl | trivial⟩
        case round =>
          obtain ⟨j, hj, rfl, rfl⟩ := hrel
          have hwj : (Lit.int .i64 ((j : Nat) : Int)).wf = true := wf_nat (show _ < 1000000 by omega)
          by_cases hlt2 : j < V
          · have HFJ : Hid (seenF (LS.map (vH q)) ((j : Nat) : Int) = some (.bool true)) := by
              show _ = _
              rw [seenF_nat, if_pos (HX2.out j hlt2)]
            go_wp2_with (first | (at_lookup; go_must (refine wp_look1 rfl rfl keyE_i Try.underlying76 (zeroB _) rfl HS5.out rfl hwj HFJ.out ?_)))
            go_roundw
            case rel => exact ⟨j + 1, by omega, by go_num, by first | rfl | trivial⟩
            case measure => simp [intOf]; omega
          · have hjv : j = V := by omega
            subst hjv
            have HFJ : Hid (seenF (LS.map (vH q)) ((j : Nat) : Int) = none) := by
              show _ = _
              rw [seenF_nat, if_neg HX1.out]
            have hput := HPUT.out
            unfold encI at hput
            go_wp2_with (first | (at_lookup; go_must (refine wp_look1 rfl rfl keyE_i Try.underlying76 (zeroB _) rfl HS5.out rfl hwj HFJ.out ?_)))
            all_goals
              go_ret2
              exact ⟨by rw [HVV.out]; rfl, HP7.out⟩

set_option maxHeartbeats 3200000 in
set_option maxRecDepth 100000 in
theorem value_int (q : Nat) (gm : GmOk (hN q) uH (vH q) id) (hd : ∀ s ∈ uH, domI s) (hnext : ∀ s ∈ uH, ∀ W, Calls Try.prog 34 #[.agg #[.int .i64 q], encI s] W fun e w' => ∃ u, e = .returned u ∧ RowOf encI w' u (hN q s) ∧ Ext W w') (hvb : ∀ s ∈ uH, (vH q) s < 1000) (hnl : ∀ s ∈ uH, ((hN q) s).length ≤ 20000) (most : Nat) (hm1 : 2 * (uH).length < most) (hm2 : most ≤ 20000) (p b : Nat) :
    ∀ (r : Nat) (s : Nat) (m : Nat → Option Int) (n : Nat) (w : World), s ∈ uH → id s ≤ r → VS Try.prog 3 encI domI uH w p b (.iface 26 (.agg #[.int .i64 (q : Int)])) most n m → memoOk uH (vH q) id (id s) m →
    Calls Try.prog 15 #[.pointer (some ⟨p, 0, none⟩), encI s] w fun e w' => e = .returned (.tuple #[.int .i64 ((vH q) s : Nat), .int .i64 0]) ∧ VPost Try.prog 3 encI domI uH (vH q) id p b (.iface 26 (.agg #[.int .i64 (q : Int)])) most s ((hN q) s) m w w' := by
  intro r
  induction r with
  | zero => exact value_int_step q gm hd hnext hvb hnl most hm1 hm2 p b 0 (fun s m n w hs hr => absurd hr (Nat.not_lt_zero _))
  | succ r ih => exact value_int_step q gm hd hnext hvb hnl most hm1 hm2 p b (r + 1) (fun s m n w hs hr => ih s m n w hs (by omega))
end Go.Proofs.Ytnmcljjfepngeaa
