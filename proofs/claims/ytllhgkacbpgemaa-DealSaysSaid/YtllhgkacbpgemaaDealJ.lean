/- the walk of DealSays -/
import Derived.Test.YtllhgkacbpgemaaDealI
import Derived.Deep.RegionHeld3
namespace Go.Proofs.Ytllhgkacbpgemaa
open Go.RowKit
set_option linter.unusedVariables false

theorem Kp.cell {tb pb : Nat} {w w' : World} (h : Kp tb pb w w') {b o : Nat} {v : Value} (hc : w.cell? ⟨b, o, none⟩ = some v) (h1 : b ≠ tb) (h2 : b ≠ pb) : w'.cell? ⟨b, o, none⟩ = some v := by
  have hb := World.block_lt_of_cell? w _ hc
  rw [← hc]
  unfold World.cell?
  simp only [h.block b hb h1 h2]

theorem chk_out {l : List PV} {cheat k : Int} (s : Int) (h : k < 0 ∨ (l.length : Int) ≤ k) : chkF l cheat k s = 4 := by simp only [chkF]; rw [if_pos h]
theorem chk_state {l : List PV} {cheat k : Int} (s : Int) (h1 : 0 ≤ k) (h2 : k < (l.length : Int)) (h : stageF l cheat ≠ s) : chkF l cheat k s = 10 := by
  simp only [chkF]; rw [if_neg (by omega), if_neg h]
theorem chk_ok {l : List PV} {cheat k : Int} (s : Int) (h1 : 0 ≤ k) (h2 : k < (l.length : Int)) (h : stageF l cheat = s) : chkF l cheat k s = 0 := by
  simp only [chkF]; rw [if_neg (by omega), if_pos h]

theorem St.start {w0 w : World} {B B2 tb pb sb ob mb nb n k : Nat} (hk : 1 ≤ k) (bl : Bl B B2 tb pb sb ob mb nb) (tab : Tab w B tb pb n (List.replicate k pv0) (-1))
    (rs : w.ownsRow B 4 1 (.slice (some ⟨sb, 0, none⟩) k k) k (List.replicate k (.bool false))) (ro : w.ownsRow B 4 1 (.slice (some ⟨ob, 0, none⟩) k k) k (List.replicate k (.bool false)))
    (rm : w.ownsRow B 37 1 (.slice (some ⟨mb, 0, none⟩) k k) k (List.replicate k (.int .u64 0))) (rn : w.ownsRow B 22 1 (.slice (some ⟨nb, 0, none⟩) k k) k (List.replicate k (.slice none 0 0))) :
    St w0 w w B B2 tb pb sb ob mb nb n (List.replicate k pv0) (-1) (List.replicate k 0) (List.replicate k (.slice none 0 0)) (List.replicate k []) := by
  refine ⟨bl, Mid.refl _ _ _, tab, by simpa [pv0] using rs, by simpa [pv0] using ro, by simpa using rm, by simpa using rn, by simp, fun i p hp hs => ?_, fun i p hp hs => ?_, fun p hp hs => ?_, fun h => by omega, ⟨by omega, by simp; omega⟩, by simpa using hk⟩
  · obtain rfl := List.eq_of_mem_replicate (List.mem_of_getElem? hp); cases hs
  · obtain rfl := List.eq_of_mem_replicate (List.mem_of_getElem? hp); cases hs
  · obtain rfl := List.eq_of_mem_replicate hp; cases hs


theorem firstErr_all (n : Int) : ∀ xss : List (List Int), (∀ x ∈ xss, drawsErr n x = 0) → firstErr n xss = 0
  | [], _ => rfl
  | x :: xs, h => by
    simp only [firstErr, h x (by simp)]
    simpa using firstErr_all n xs (fun y hy => h y (by simp [hy]))

theorem St.dealt {w0 wL wr : World} {B B2 tb pb sb ob mb nb n : Nat} {l : List PV} {cheat : Int} {ms : List Int} {nv : List Value} {dss : List (List Int)} (h : St w0 wL wr B B2 tb pb sb ob mb nb n l cheat ms nv dss) (h52 : n ≤ 52) (hB : w0.heap.size ≤ B) (hX : Ext w0 wL) :
    Calls Try.prog 33 #[.pointer (some ⟨tb, 0, none⟩), .int .i64 n, .slice (some ⟨sb, 0, none⟩) l.length l.length, .slice (some ⟨ob, 0, none⟩) l.length l.length, .slice (some ⟨nb, 0, none⟩) l.length l.length, .int .i64 cheat] wr
      fun e w' => e = .returned (.bool true) ∧ Ext wr w' := by
  have hlen := h.tab.len
  have hrs := own_rowOf (xs := l.map (·.sealed)) h.rs (by omega)
  have hro := own_rowOf (xs := l.map (·.opened)) h.ro (by omega)
  have hone := h.one
  cases h1 : l.any (fun p => !p.sealed)
  · cases h2 : l.any (fun p => !p.opened)
    · have hop : ∀ p ∈ l, p.opened = true := fun p hp => by
        simp only [List.any_eq_false] at h2
        simpa using h2 p hp
      have h3 : cheat < 0 := by
        by_cases hc : 0 ≤ cheat
        · have := (h.i2 hc).2; rw [h2] at this; cases this
        · omega
      have hnl : nv.length = l.length := by have := own_n h.rn; simpa using this
      have hdl := h.dl
      have hat : ∀ i, i < l.length → ∃ p, l[i]? = some p ∧ p.opened = true := fun i hi => ⟨l[i], List.getElem?_eq_getElem hi, hop _ (List.getElem_mem hi)⟩
      refine dealt_D B tb pb n l cheat _ _ _ dss wr h.tab hrs hro h1 h2 h3 h52 ⟨nv, by have := own_row h.rn (by omega); exact this, by omega, fun i u xs a b => ?_⟩ hdl (fun i p ds a b => ?_) (firstErr_all n dss fun x hx => ?_)
      · have hi := (List.getElem?_eq_some_iff.1 a).1
        obtain ⟨p, hp, ho⟩ := hat i (by omega)
        obtain ⟨u', ds, r1, r2, r3, _⟩ := h.op i p hp ho
        rw [a] at r1; rw [b] at r2
        obtain rfl := Option.some.inj r1
        obtain rfl := Option.some.inj r2
        exact r3.ext (h.mid.ext hX hB)
      · obtain ⟨u', ds', r1, r2, r3, r4, _⟩ := h.op i p a (hop p (List.mem_of_getElem? a))
        rw [b] at r2
        obtain rfl := Option.some.inj r2
        exact r4
      · obtain ⟨i, hi, rfl⟩ := List.mem_iff_getElem.1 hx
        obtain ⟨p, hp, ho⟩ := hat i (by omega)
        obtain ⟨u', ds', r1, r2, _, _, _, r6⟩ := h.op i p hp ho
        rw [List.getElem?_eq_getElem hi] at r2
        rw [Option.some.inj r2]; exact r6
    · by_cases h3 : 0 ≤ cheat
      · exact dealt_F B tb pb n l cheat _ _ _ wr h.tab hrs hro h1 h2 h3
      · exact dealt_O B tb pb n l cheat _ _ _ wr h.tab hrs hro h1 h2 (by omega)
  · have h3 : cheat < 0 := by
      by_cases hc : 0 ≤ cheat
      · have := (h.i2 hc).1; rw [h1] at this; cases this
      · omega
    cases h2 : l.any (fun p => !p.opened)
    · have ho : (l[0]'(by omega)).opened = true := by
        simp only [List.any_eq_false] at h2
        simpa using h2 _ (List.getElem_mem (by omega))
      have := h.i1 _ (List.getElem_mem (by omega)) ho
      rw [h1] at this; cases this
    · exact dealt_S B tb pb n l cheat _ _ _ wr h.tab hrs hro h1 h2 h3

set_option maxHeartbeats 40000000 in
set_option maxRecDepth 100000 in
theorem dealSays_ok (k n : Nat) (ao : Option Addr) (cap : Nat) (cs : List DC) (w : World) (hv : CallsIn w ao cap cs) (h1 : 1 ≤ k) (h6 : k ≤ 6) (h52 : n ≤ 52) :
    Calls Try.prog 6 #[.int .i64 k, .int .i64 n, .slice ao cs.length cap] w fun e w' => e = .returned (.bool true) ∧ Ext w w' := by
  have HN := Lib.hid (fun W => new_ok k n W h1 h6 h52)
  have HF := Lib.hid (dealFact_any w)
  have HV := Lib.hid hv
  have hsz := hv.sz
  have hb1 : decide ((k : Int) < 1) = false := by simp; omega
  have hb2 : decide (6 < (k : Int)) = false := by simp; omega
  have hb3 : decide ((n : Int) < 0) = false := by simp
  have hb4 : decide (52 < (n : Int)) = false := by simp; omega
  have hb5 : decide (6 < k) = false := by simp; omega
  have hb6 : decide (52 < n) = false := by simp; omega
  have hb7 : decide (k < 1) = false := by simp; omega
  clear hv
  go_enter Try.func6, Try.ntmps6
  go_wp2_with fail
  refine HF.out.mono ?_
  rintro e w0 ⟨rfl, hx0⟩
  go_wp2_with fail
  refine (HN.out _).mono ?_
  rintro e w1 ⟨tb, rfl, ⟨pb, hT⟩, hx1⟩
  go_upto_region 8 with fail
  go_cut [9, 10] (fun s9 s10 wx => ∃ mb nb, s9 = .slice (some ⟨mb, 0, none⟩) k k ∧ s10 = .slice (some ⟨nb, 0, none⟩) k k ∧ w1.heap.size ≤ mb ∧ w1.heap.size ≤ nb ∧ mb ≠ nb ∧ Ext w1 wx ∧
    wx.ownsRow w1.heap.size 37 1 (.slice (some ⟨mb, 0, none⟩) k k) k (List.replicate k (.int .u64 0)) ∧ wx.ownsRow w1.heap.size 22 1 (.slice (some ⟨nb, 0, none⟩) k k) k (List.replicate k (.slice none 0 0)))
  case first =>
    have hmkU := fun W => run_make_row' (P := Try.prog) 46 37 (.int .u64 0) 8 Try.underlying46 info_u64 rfl .i64 .i64 k (by omega) (by omega) W
    have hmkR := fun W => run_make_row' (P := Try.prog) 30 22 (.slice none 0 0) 24 Try.underlying30 info_row rfl .i64 .i64 k (by omega) (by omega) W
    go_region
    all_goals
      go_wp2_with fail
      go_meet
      first
        | exact ⟨w1.heap.size, w1.heap.size + 1, rfl, rfl, Nat.le_refl _, by omega, by omega, (((Ext.refl w1).alloc _).alloc _).drew, own_ext (own_mk w1 w1 (.int .u64 0) 37 k h6 (Nat.le_refl _)) ((((Ext.refl _).alloc _)).drew),
            by have := own_mk w1 (w1.alloc (.cells (madeCells #[.int .u64 0] k) 37)) (.slice none 0 0) 22 k h6 (by simp); simp only [World.size_alloc] at this; exact own_ext this (Ext.refl _).drew⟩
        | exact ⟨w1.heap.size + 1, w1.heap.size, rfl, rfl, by omega, Nat.le_refl _, by omega, (((Ext.refl w1).alloc _).alloc _).drew,
            by have := own_mk w1 (w1.alloc (.cells (madeCells #[.slice none 0 0] k) 22)) (.int .u64 0) 37 k h6 (by simp); simp only [World.size_alloc] at this; exact own_ext this (Ext.refl _).drew,
            own_ext (own_mk w1 w1 (.slice none 0 0) 22 k h6 (Nat.le_refl _)) ((((Ext.refl _).alloc _)).drew)⟩
  case rest =>
    obtain ⟨mb, nb, rfl, rfl, hmb, hnb, hmn, hxw, hO1, hO2⟩ := hcut
    obtain ⟨wA, rfl⟩ : ∃ wA : World, wA = wc := ⟨_, rfl⟩
    go_upto_region 9 with fail
    go_cut [11, 12, 13] (fun s11 s12 s13 wx => ∃ sb ob, s11 = .slice (some ⟨sb, 0, none⟩) k k ∧ s12 = .slice (some ⟨ob, 0, none⟩) k k ∧ s13 = .int .i64 (-1) ∧ wA.heap.size ≤ sb ∧ wA.heap.size ≤ ob ∧ sb ≠ ob ∧ sb < wx.heap.size ∧ ob < wx.heap.size ∧ Ext wA wx ∧
      wx.ownsRow wA.heap.size 4 1 (.slice (some ⟨sb, 0, none⟩) k k) k (List.replicate k (.bool false)) ∧ wx.ownsRow wA.heap.size 4 1 (.slice (some ⟨ob, 0, none⟩) k k) k (List.replicate k (.bool false)))
    case first =>
      have hmkB := fun W => run_make_row' (P := Try.prog) 47 4 (.bool false) 1 Try.underlying47 info_bool rfl .i64 .i64 k (by omega) (by omega) W
      go_region
      all_goals
        go_wp2_with fail
        go_meet
        have q1 : ((wA.alloc (.cells (madeCells #[.bool false] k) 4)).alloc (.cells (madeCells #[.bool false] k) 4)).drew.ownsRow wA.heap.size 4 1 (.slice (some ⟨wA.heap.size, 0, none⟩) k k) k (List.replicate k (.bool false)) :=
          own_ext (own_ext (own_mk wA wA (.bool false) 4 k h6 (Nat.le_refl _)) ((Ext.refl _).alloc _)) (Ext.refl _).drew
        have q2 : ((wA.alloc (.cells (madeCells #[.bool false] k) 4)).alloc (.cells (madeCells #[.bool false] k) 4)).drew.ownsRow wA.heap.size 4 1 (.slice (some ⟨wA.heap.size + 1, 0, none⟩) k k) k (List.replicate k (.bool false)) := by
          have := own_mk wA (wA.alloc (.cells (madeCells #[.bool false] k) 4)) (.bool false) 4 k h6 (by simp)
          simp only [World.size_alloc] at this
          exact own_ext this (Ext.refl _).drew
        first
          | exact ⟨wA.heap.size, wA.heap.size + 1, rfl, rfl, rfl, by omega, by omega, by omega, by simp; omega, by simp, (((Ext.refl wA).alloc _).alloc _).drew, q1, q2⟩
          | exact ⟨wA.heap.size + 1, wA.heap.size, rfl, rfl, rfl, by omega, by omega, by omega, by simp, by simp; omega, (((Ext.refl wA).alloc _).alloc _).drew, q2, q1⟩
    case rest =>
      obtain ⟨sb, ob, rfl, rfl, rfl, hsb, hob, hso, hsb2, hob2, hxw2, hO3, hO4⟩ := hcut
      obtain ⟨wB, rfl⟩ : ∃ wB : World, wB = wc := ⟨_, rfl⟩
      go_upto_region 10 with fail
      go_cut [71, 72, 73] (fun s71 s72 s73 wx => ∃ m : Nat, m ≤ cs.length ∧ m ≤ 20 ∧ s71 = .slice ao m cap ∧ s72 = .int .i64 m ∧ s73 = .int .i64 0 ∧ wB = wx)
      case first =>
        have hcap := HV.out.le
        have hnn := Lib.hid HV.out.nn
        by_cases hm : cs.length ≤ 20
        · go_wp2_with fail
          go_meet
          exact ⟨cs.length, by omega, hm, rfl, rfl, rfl, rfl⟩
        · go_wp2_with fail
          go_meet
          exact ⟨20, by omega, by omega, rfl, rfl, rfl, rfl⟩
      case rest =>
        obtain ⟨m, hm, hm20, rfl, rfl, rfl, rfl⟩ := hcut
        have ltT := hT.lt
        have ltT1 := (hT.own.lt tb rfl).1
        have ltT2 := (hT.row.lt pb rfl).1
        have ltM := (hO1.lt mb rfl).2
        have ltN := (hO2.lt nb rfl).2
        have szA := hxw.size
        have szB := hxw2.size
        have sz1 := hx1.size
        have hne := hT.ne
        have hBl : Bl w0.heap.size wB.heap.size tb pb sb ob mb nb := ⟨⟨hne, by omega, by omega, by omega, by omega, by omega, by omega, by omega, by omega, by omega, by omega, by omega, by omega, by omega, by omega⟩, ⟨by omega, by omega, by omega, by omega, by omega, by omega⟩⟩
        have hSt : St w wB wB w0.heap.size wB.heap.size tb pb sb ob mb nb n (List.replicate k pv0) (-1) (List.replicate k 0) (List.replicate k (.slice none 0 0)) (List.replicate k []) :=
          St.start h1 hBl (hT.ext (hxw.trans hxw2)) (own_mono hO3 (by omega)) (own_mono hO4 (by omega)) (own_mono (own_ext hO1 hxw2) (by omega)) (own_mono (own_ext hO2 hxw2) (by omega))
        have HSt := Lib.hid hSt
        have hX0 : Ext w wB := hx0.trans (hx1.trans (hxw.trans hxw2))
        have hBw : w.heap.size ≤ w0.heap.size := hx0.size
        have HX0 := Lib.hid hX0
        clear hSt hBl hO1 hO2 hO3 hO4 hT ltT ltM ltN hX0 hxw hxw2 hx1 hx0 szA szB sz1 hne ltT1 ltT2 hmb hnb hmn hsb hob hso hsb2 hob2
        obtain ⟨B, hB⟩ : ∃ B, w0.heap.size = B := ⟨_, rfl⟩
        obtain ⟨B2, hB2⟩ : ∃ B2, wB.heap.size = B2 := ⟨_, rfl⟩
        rw [hB, hB2] at HSt
        rw [hB] at hBw
        have hB2L : B2 ≤ wB.heap.size := by omega
        clear hB hB2
        go_wp2_with fail
        go_loopw [13, 73] (fun ch i wr => ∃ (q : Nat) (cheat : Int) (l : List PV) (ms : List Int) (nv : List Value) (dss : List (List Int)), q ≤ m ∧ i = .int .i64 q ∧ ch = .int .i64 cheat ∧ Hid (l.length = k) ∧ St w wB wr B B2 tb pb sb ob mb nb n l cheat ms nv dss) (fun _ i _ => m - (intOf i).toNat)
        case atStart => exact ⟨0, -1, _, _, _, _, Nat.zero_le _, rfl, rfl, List.length_replicate, HSt.out⟩
        case round =>
          obtain ⟨q, cheat, l, ms, nv, dss, hq, rfl, rfl, HL, hST⟩ := hrel
          have HST := Lib.hid hST
          have hX : Ext w wr := hST.mid.ext HX0.out hBw
          have hBr : B2 ≤ wr.heap.size := Nat.le_trans hB2L hST.mid.size
          have hch := hST.ch
          rw [HL.out] at hch
          clear hST HSt
          by_cases hlt : q < m
          · obtain ⟨c, g1, _, _⟩ := get_lt (xs := cs) (k := q) (by omega)
            obtain ⟨bA, oA, rfl, a0, a1, a2, a3, a4⟩ := HV.out.at' q c g1.out
            obtain ⟨hds, hdl, hpb⟩ := HV.out.ok c (List.mem_of_getElem? g1.out)
            have a0 := hX.cell a0
            have a1 := hX.cell a1
            have a2 := hX.cell a2
            have a3 := hX.cell a3
            have a4 := hX.cell a4
            obtain ⟨op, wrong, pl, sec, dv, ds⟩ := c
            simp only at a0 a1 a2 a3 a4 hds hdl hpb
            have HDS := Lib.hid hds
            have hdsr := hds.ext hX
            obtain ⟨dao, dcap, rfl, _, _⟩ := hds.open
            obtain ⟨z, hz⟩ : ∃ z, Hid (sealF ds sec = z) := ⟨_, rfl⟩
            have hso := fun (W : World) (hW : Ext wr W) => sealOf_any _ ds sec W (hdsr.ext hW) (by omega)
            rw [hz.out] at hso
            have HSO := Lib.hid hso
            have HDR := Lib.hid hdsr
            obtain ⟨sB, hsB⟩ : ∃ sB, Hid (l.any (fun p => !p.sealed) = sB) := ⟨_, rfl⟩
            obtain ⟨oB, hoB⟩ : ∃ oB, Hid (l.any (fun p => !p.opened) = oB) := ⟨_, rfl⟩
            have hrs := HST.out.rs
            have hro := HST.out.ro
            rw [HL.out] at hrs hro
            have HS1 := Lib.hid (fun (W : World) (hW : Ext wr W) => contains_bools _ (l.map (·.sealed)) false W (own_rowOf (own_ext hrs hW) (by omega)) sB (by show _ = _; rw [any_dec]; exact hsB.out))
            have HS2 := Lib.hid (fun (W : World) (hW : Ext wr W) => contains_bools _ (l.map (·.opened)) false W (own_rowOf (own_ext hro hW) (by omega)) oB (by show _ = _; rw [any_dec]; exact hoB.out))
            clear hds hdsr hso
            have HRS := Lib.hid hrs
            have HRO := Lib.hid hro
            clear hrs hro
            have Y0 := Lib.hid (fun (W : World) (hW : Ext (wr.alloc (.cells #[.bool op, .bool wrong, .int .i64 pl, .int .i64 sec, .slice dao ds.length dcap] 49)) W) => (⟨hW.cell (p := ⟨wr.heap.size, 0, none⟩) (v := .bool op) (by simp [World.cell?_alloc_new]), hW.cell (p := ⟨wr.heap.size, 1, none⟩) (v := .bool wrong) (by simp [World.cell?_alloc_new]), hW.cell (p := ⟨wr.heap.size, 2, none⟩) (v := .int .i64 pl) (by simp [World.cell?_alloc_new]),
              hW.cell (p := ⟨wr.heap.size, 3, none⟩) (v := .int .i64 sec) (by simp [World.cell?_alloc_new]), hW.cell (p := ⟨wr.heap.size, 4, none⟩) (v := .slice dao ds.length dcap) (by simp [World.cell?_alloc_new])⟩ : W.cell? ⟨wr.heap.size, 0, none⟩ = some (.bool op) ∧ W.cell? ⟨wr.heap.size, 1, none⟩ = some (.bool wrong) ∧ W.cell? ⟨wr.heap.size, 2, none⟩ = some (.int .i64 pl) ∧ W.cell? ⟨wr.heap.size, 3, none⟩ = some (.int .i64 sec) ∧ W.cell? ⟨wr.heap.size, 4, none⟩ = some (.slice dao ds.length dcap)))
            cases op
            · cases wrong
              · by_cases hk0 : pl < 0
                · as_aux_lemma =>
                    have hcm := fun (W : World) (hW : Ext wr W) s => commit_err B tb pb n l cheat pl s W (HST.out.tab.ext hW) (by rw [chk_out 0 (.inl hk0)]; decide)
                    rw [chk_out 0 (.inl hk0)] at hcm
                    have HCM := Lib.hid hcm
                    clear hcm
                    go_wp2_with fail
                    refine (HS1.out _ (by exact (Ext.refl wr).alloc _)).mono ?_
                    rintro e w' ⟨rfl, rfl⟩
                    go_wp2_with fail
                    refine (HS2.out _ (by exact (Ext.refl wr).alloc _)).mono ?_
                    rintro e w' ⟨rfl, rfl⟩
                    go_wp2_with fail
                    refine (HSO.out _ (by exact (Ext.refl wr).alloc _)).mono ?_
                    rintro e w2 ⟨rfl, hx2⟩
                    have X2 := ((Ext.refl wr).alloc _).trans hx2
                    obtain ⟨y0, y1, y2, y3, y4⟩ := Y0.out _ hx2
                    clear hx2
                    go_wp2_with fail
                    refine (HCM.out _ (by exact X2) _).mono ?_
                    rintro e w3 ⟨rfl, hx3⟩
                    go_wp2_with fail
                    go_roundw
                    case rel => exact ⟨q + 1, cheat, l, ms, nv, dss, by omega, by go_num, rfl, HL, HST.out.ext (X2.trans hx3)⟩
                    case measure => simp [intOf]; omega
                · by_cases hk1 : (k : Int) ≤ pl
                  · as_aux_lemma =>
                      have hk0 : 0 ≤ pl := by omega
                      have hb8 : decide (pl < (k : Int)) = false := by simp; omega
                      have hcm := fun (W : World) (hW : Ext wr W) s => commit_err B tb pb n l cheat pl s W (HST.out.tab.ext hW) (by rw [chk_out 0 (.inr (by rw [HL.out]; exact hk1))]; decide)
                      rw [chk_out 0 (.inr (by rw [HL.out]; exact hk1))] at hcm
                      have HCM := Lib.hid hcm
                      clear hcm
                      go_wp2_with fail
                      refine (HS1.out _ (by exact (Ext.refl wr).alloc _)).mono ?_
                      rintro e w' ⟨rfl, rfl⟩
                      go_wp2_with fail
                      refine (HS2.out _ (by exact (Ext.refl wr).alloc _)).mono ?_
                      rintro e w' ⟨rfl, rfl⟩
                      go_wp2_with fail
                      refine (HSO.out _ (by exact (Ext.refl wr).alloc _)).mono ?_
                      rintro e w2 ⟨rfl, hx2⟩
                      have X2 := ((Ext.refl wr).alloc _).trans hx2
                      obtain ⟨y0, y1, y2, y3, y4⟩ := Y0.out _ hx2
                      clear hx2
                      go_wp2_with fail
                      refine (HCM.out _ (by exact X2) _).mono ?_
                      rintro e w3 ⟨rfl, hx3⟩
                      go_wp2_with fail
                      go_roundw
                      case rel => exact ⟨q + 1, cheat, l, ms, nv, dss, by omega, by go_num, rfl, HL, HST.out.ext (X2.trans hx3)⟩
                      case measure => simp [intOf]; omega
                  · obtain ⟨K, rfl⟩ := Int.eq_ofNat_of_zero_le (show 0 ≤ pl by omega)
                    have hKk : K < k := by omega
                    obtain ⟨p, p1, _, _⟩ := get_lt (xs := l) (k := K) (by rw [HL.out]; exact hKk)
                    have hcK := ((Ext.refl wr).alloc (.cells #[.bool false, .bool false, .int .i64 K, .int .i64 sec, .slice dao ds.length dcap] 49)).cell (own_cell HRS.out (j := K) (x := .bool p.sealed) (by simp [Hid, p1.out]))
                    clear hk0 hk1
                    cases sB
                    · as_aux_lemma =>
                        have hst : stageF l cheat ≠ 0 := by
                          simp only [stageF, hsB.out]
                          by_cases hc0 : 0 ≤ cheat
                          · rw [if_pos hc0]; decide
                          · rw [if_neg hc0]; simp; split <;> decide
                        have hcm := fun (W : World) (hW : Ext wr W) s => commit_err B tb pb n l cheat K s W (HST.out.tab.ext hW) (by rw [chk_state 0 (by omega) (by rw [HL.out]; omega) hst]; decide)
                        rw [chk_state 0 (by omega) (by rw [HL.out]; omega) hst] at hcm
                        have HCM := Lib.hid hcm
                        clear hcm hst
                        go_wp2_with fail
                        refine (HS1.out _ (by exact (Ext.refl wr).alloc _)).mono ?_
                        rintro e w' ⟨rfl, rfl⟩
                        go_wp2_with fail
                        refine (HS2.out _ (by exact (Ext.refl wr).alloc _)).mono ?_
                        rintro e w' ⟨rfl, rfl⟩
                        go_wp2_with fail
                        refine (HSO.out _ (by exact (Ext.refl wr).alloc _)).mono ?_
                        rintro e w2 ⟨rfl, hx2⟩
                        have X2 := ((Ext.refl wr).alloc _).trans hx2
                        obtain ⟨y0, y1, y2, y3, y4⟩ := Y0.out _ hx2
                        clear hx2
                        go_wp2_with fail
                        refine (HCM.out _ (by exact X2) _).mono ?_
                        rintro e w3 ⟨rfl, hx3⟩
                        go_wp2_with fail
                        go_roundw
                        case rel => exact ⟨q + 1, cheat, l, ms, nv, dss, by omega, by go_num, rfl, HL, HST.out.ext (X2.trans hx3)⟩
                        case measure => simp [intOf]; omega
                    · have hc0 : cheat < 0 := by
                        by_cases h : 0 ≤ cheat
                        · have := (HST.out.i2 h).1; rw [hsB.out] at this; cases this
                        · omega
                      have hst : stageF l cheat = 0 := by simp only [stageF]; rw [if_neg (by omega), if_pos hsB.out]
                      have HCK := Lib.hid (chk_ok (l := l) (cheat := cheat) (k := K) 0 (by omega) (by rw [HL.out]; omega) hst)
                      clear hst
                      obtain ⟨sd, hsd⟩ : ∃ sd, p.sealed = sd := ⟨_, rfl⟩
                      rw [hsd] at hcK
                      have HSD := Lib.hid hsd
                      clear hsd
                      cases sd
                      · as_aux_lemma =>
                          go_wp2_with fail
                          refine (HS1.out _ (by exact (Ext.refl wr).alloc _)).mono ?_
                          rintro e w' ⟨rfl, rfl⟩
                          go_wp2_with fail
                          refine (HS2.out _ (by exact (Ext.refl wr).alloc _)).mono ?_
                          rintro e w' ⟨rfl, rfl⟩
                          go_wp2_with fail
                          refine (HSO.out _ (by exact (Ext.refl wr).alloc _)).mono ?_
                          rintro e w2 ⟨rfl, hx2⟩
                          have X2 := ((Ext.refl wr).alloc _).trans hx2
                          obtain ⟨y0, y1, y2, y3, y4⟩ := Y0.out _ hx2
                          clear hx2
                          go_wp2_with fail
                          refine (commit_ok B tb pb n l cheat _ K p _ (HST.out.tab.ext X2) HCK.out (by rw [HL.out]; exact hKk) p1 HSD.out).mono ?_
                          rintro e w3 ⟨rfl, hT3, hK3⟩
                          obtain ⟨nd1, nd2, nd3, nd4, nd5, nd6, nd7, nd8, nd9, nd10, nd11, nd12, nd13, nd14, nd15⟩ := HST.out.bl.nd
                          obtain ⟨lo1, lo2, lo3, lo4, lo5, lo6⟩ := HST.out.bl.lo
                          have y2 := hK3.cell y2 (by omega) (by omega)
                          have r1 := Kp.own1 (own_ext HRS.out X2) hK3 (Ne.symm nd2) (Ne.symm nd6)
                          have hrm := HST.out.rm
                          rw [HL.out] at hrm
                          have r2 := Kp.own1 (own_ext hrm X2) hK3 (Ne.symm nd4) (Ne.symm nd8)
                          have hml : ms.length = k := by have := own_n hrm; simpa using this
                          obtain ⟨mo, mo1, _, _⟩ := get_lt (xs := ms) (k := K) (by omega)
                          have c1 := own_cell r1 (j := K) (x := .bool p.sealed) (by simp [Hid, p1.out])
                          have c2 := own_cell r2 (j := K) (x := .int .u64 mo) (by simp [Hid, mo1.out])
                          have f1 := r1.frozenAt K
                          have f2 := r2.frozenAt K
                          have s1 := (two_stores (B2 := B2) r1 r2 nd11 (by omega) (by omega) K K (.bool true) (.int .u64 z))
                          have s2 := (two_stores (B2 := B2) r2 r1 (Ne.symm nd11) (by omega) (by omega) K K (.int .u64 z) (.bool true))
                          have H1 := Lib.hid s1
                          have H2 := Lib.hid s2
                          have HR1 := Lib.hid r1
                          have HR2 := Lib.hid r2
                          have HT3 := Lib.hid hT3
                          clear s1 s2 r1 r2 hT3 y0 y1 y3 y4 hrm hml
                          go_wp2_with fail
                          go_region
                          all_goals
                            go_wp2_with fail
                            go_roundw
                            case rel =>
                              have hS2 := HST.out.ext X2
                              first
                                | exact ⟨q + 1, cheat, _, _, nv, dss, by omega, by go_num, rfl, by show _ = _; rw [List.length_set]; exact HL.out, hS2.commit p1.out HSD.out HT3.out hK3 (fun e xs h => by rw [HL.out] at h ⊢; exact own_ext (two_stores (B2 := B2) h HR2.out nd11 (by omega) (by omega) K K (.bool true) (.int .u64 z)).1 (Ext.refl _).drew) (fun e xs h => by rw [HL.out] at h ⊢; exact own_ext (two_stores (B2 := B2) HR1.out h nd11 (by omega) (by omega) K K (.bool true) (.int .u64 z)).2.1 (Ext.refl _).drew) (fun j j1 j2 e sz n c zs h => own_ext (H1.out.2.2.1 j j1 j2 e sz n c zs h) (Ext.refl _).drew) (H1.out.2.2.2.trans (.of (Ext.refl _).drew))⟩
                                | exact ⟨q + 1, cheat, _, _, nv, dss, by omega, by go_num, rfl, by show _ = _; rw [List.length_set]; exact HL.out, hS2.commit p1.out HSD.out HT3.out hK3 (fun e xs h => by rw [HL.out] at h ⊢; exact own_ext (two_stores (B2 := B2) HR2.out h (Ne.symm nd11) (by omega) (by omega) K K (.int .u64 z) (.bool true)).2.1 (Ext.refl _).drew) (fun e xs h => by rw [HL.out] at h ⊢; exact own_ext (two_stores (B2 := B2) h HR1.out (Ne.symm nd11) (by omega) (by omega) K K (.int .u64 z) (.bool true)).1 (Ext.refl _).drew) (fun j j1 j2 e sz n c zs h => own_ext (H2.out.2.2.1 j j2 j1 e sz n c zs h) (Ext.refl _).drew) (H2.out.2.2.2.trans (.of (Ext.refl _).drew))⟩
                            case measure => simp [intOf]; omega
                      · as_aux_lemma =>
                          have HCM := Lib.hid (fun (W : World) (hW : Ext wr W) s => commit_twice B tb pb n l cheat s K p W (HST.out.tab.ext hW) HCK.out (by rw [HL.out]; exact hKk) p1 HSD.out)
                          go_wp2_with fail
                          refine (HS1.out _ (by exact (Ext.refl wr).alloc _)).mono ?_
                          rintro e w' ⟨rfl, rfl⟩
                          go_wp2_with fail
                          refine (HS2.out _ (by exact (Ext.refl wr).alloc _)).mono ?_
                          rintro e w' ⟨rfl, rfl⟩
                          go_wp2_with fail
                          refine (HSO.out _ (by exact (Ext.refl wr).alloc _)).mono ?_
                          rintro e w2 ⟨rfl, hx2⟩
                          have X2 := ((Ext.refl wr).alloc _).trans hx2
                          obtain ⟨y0, y1, y2, y3, y4⟩ := Y0.out _ hx2
                          clear hx2
                          go_wp2_with fail
                          refine (HCM.out _ (by exact X2) _).mono ?_
                          rintro e w3 ⟨rfl, hx3⟩
                          go_wp2_with fail
                          go_roundw
                          case rel => exact ⟨q + 1, cheat, l, ms, nv, dss, by omega, by go_num, rfl, HL, HST.out.ext (X2.trans hx3)⟩
                          case measure => simp [intOf]; omega
              · by_cases hk0 : pl < 0
                · as_aux_lemma =>
                    have hcm := fun (W : World) (hW : Ext wr W) s => commit_err B tb pb n l cheat pl s W (HST.out.tab.ext hW) (by rw [chk_out 0 (.inl hk0)]; decide)
                    rw [chk_out 0 (.inl hk0)] at hcm
                    have HCM := Lib.hid hcm
                    clear hcm
                    go_wp2_with fail
                    refine (HS1.out _ (by exact (Ext.refl wr).alloc _)).mono ?_
                    rintro e w' ⟨rfl, rfl⟩
                    go_wp2_with fail
                    refine (HS2.out _ (by exact (Ext.refl wr).alloc _)).mono ?_
                    rintro e w' ⟨rfl, rfl⟩
                    go_wp2_with fail
                    refine (HSO.out _ (by exact (Ext.refl wr).alloc _)).mono ?_
                    rintro e w2 ⟨rfl, hx2⟩
                    have X2 := ((Ext.refl wr).alloc _).trans hx2
                    obtain ⟨y0, y1, y2, y3, y4⟩ := Y0.out _ hx2
                    clear hx2
                    go_wp2_with fail
                    refine (HCM.out _ (by exact X2) _).mono ?_
                    rintro e w3 ⟨rfl, hx3⟩
                    go_wp2_with fail
                    go_roundw
                    case rel => exact ⟨q + 1, cheat, l, ms, nv, dss, by omega, by go_num, rfl, HL, HST.out.ext (X2.trans hx3)⟩
                    case measure => simp [intOf]; omega
                · by_cases hk1 : (k : Int) ≤ pl
                  · as_aux_lemma =>
                      have hk0 : 0 ≤ pl := by omega
                      have hb8 : decide (pl < (k : Int)) = false := by simp; omega
                      have hcm := fun (W : World) (hW : Ext wr W) s => commit_err B tb pb n l cheat pl s W (HST.out.tab.ext hW) (by rw [chk_out 0 (.inr (by rw [HL.out]; exact hk1))]; decide)
                      rw [chk_out 0 (.inr (by rw [HL.out]; exact hk1))] at hcm
                      have HCM := Lib.hid hcm
                      clear hcm
                      go_wp2_with fail
                      refine (HS1.out _ (by exact (Ext.refl wr).alloc _)).mono ?_
                      rintro e w' ⟨rfl, rfl⟩
                      go_wp2_with fail
                      refine (HS2.out _ (by exact (Ext.refl wr).alloc _)).mono ?_
                      rintro e w' ⟨rfl, rfl⟩
                      go_wp2_with fail
                      refine (HSO.out _ (by exact (Ext.refl wr).alloc _)).mono ?_
                      rintro e w2 ⟨rfl, hx2⟩
                      have X2 := ((Ext.refl wr).alloc _).trans hx2
                      obtain ⟨y0, y1, y2, y3, y4⟩ := Y0.out _ hx2
                      clear hx2
                      go_wp2_with fail
                      refine (HCM.out _ (by exact X2) _).mono ?_
                      rintro e w3 ⟨rfl, hx3⟩
                      go_wp2_with fail
                      go_roundw
                      case rel => exact ⟨q + 1, cheat, l, ms, nv, dss, by omega, by go_num, rfl, HL, HST.out.ext (X2.trans hx3)⟩
                      case measure => simp [intOf]; omega
                  · obtain ⟨K, rfl⟩ := Int.eq_ofNat_of_zero_le (show 0 ≤ pl by omega)
                    have hKk : K < k := by omega
                    obtain ⟨p, p1, _, _⟩ := get_lt (xs := l) (k := K) (by rw [HL.out]; exact hKk)
                    have hcK := ((Ext.refl wr).alloc (.cells #[.bool false, .bool true, .int .i64 K, .int .i64 sec, .slice dao ds.length dcap] 49)).cell (own_cell HRS.out (j := K) (x := .bool p.sealed) (by simp [Hid, p1.out]))
                    clear hk0 hk1
                    cases sB
                    · as_aux_lemma =>
                        have hst : stageF l cheat ≠ 0 := by
                          simp only [stageF, hsB.out]
                          by_cases hc0 : 0 ≤ cheat
                          · rw [if_pos hc0]; decide
                          · rw [if_neg hc0]; simp; split <;> decide
                        have hcm := fun (W : World) (hW : Ext wr W) s => commit_err B tb pb n l cheat K s W (HST.out.tab.ext hW) (by rw [chk_state 0 (by omega) (by rw [HL.out]; omega) hst]; decide)
                        rw [chk_state 0 (by omega) (by rw [HL.out]; omega) hst] at hcm
                        have HCM := Lib.hid hcm
                        clear hcm hst
                        go_wp2_with fail
                        refine (HS1.out _ (by exact (Ext.refl wr).alloc _)).mono ?_
                        rintro e w' ⟨rfl, rfl⟩
                        go_wp2_with fail
                        refine (HS2.out _ (by exact (Ext.refl wr).alloc _)).mono ?_
                        rintro e w' ⟨rfl, rfl⟩
                        go_wp2_with fail
                        refine (HSO.out _ (by exact (Ext.refl wr).alloc _)).mono ?_
                        rintro e w2 ⟨rfl, hx2⟩
                        have X2 := ((Ext.refl wr).alloc _).trans hx2
                        obtain ⟨y0, y1, y2, y3, y4⟩ := Y0.out _ hx2
                        clear hx2
                        go_wp2_with fail
                        refine (HCM.out _ (by exact X2) _).mono ?_
                        rintro e w3 ⟨rfl, hx3⟩
                        go_wp2_with fail
                        go_roundw
                        case rel => exact ⟨q + 1, cheat, l, ms, nv, dss, by omega, by go_num, rfl, HL, HST.out.ext (X2.trans hx3)⟩
                        case measure => simp [intOf]; omega
                    · have hc0 : cheat < 0 := by
                        by_cases h : 0 ≤ cheat
                        · have := (HST.out.i2 h).1; rw [hsB.out] at this; cases this
                        · omega
                      have hst : stageF l cheat = 0 := by simp only [stageF]; rw [if_neg (by omega), if_pos hsB.out]
                      have HCK := Lib.hid (chk_ok (l := l) (cheat := cheat) (k := K) 0 (by omega) (by rw [HL.out]; omega) hst)
                      clear hst
                      obtain ⟨sd, hsd⟩ : ∃ sd, p.sealed = sd := ⟨_, rfl⟩
                      rw [hsd] at hcK
                      have HSD := Lib.hid hsd
                      clear hsd
                      cases sd
                      · as_aux_lemma =>
                          go_wp2_with fail
                          refine (HS1.out _ (by exact (Ext.refl wr).alloc _)).mono ?_
                          rintro e w' ⟨rfl, rfl⟩
                          go_wp2_with fail
                          refine (HS2.out _ (by exact (Ext.refl wr).alloc _)).mono ?_
                          rintro e w' ⟨rfl, rfl⟩
                          go_wp2_with fail
                          refine (HSO.out _ (by exact (Ext.refl wr).alloc _)).mono ?_
                          rintro e w2 ⟨rfl, hx2⟩
                          have X2 := ((Ext.refl wr).alloc _).trans hx2
                          obtain ⟨y0, y1, y2, y3, y4⟩ := Y0.out _ hx2
                          clear hx2
                          go_wp2_with fail
                          refine (commit_ok B tb pb n l cheat _ K p _ (HST.out.tab.ext X2) HCK.out (by rw [HL.out]; exact hKk) p1 HSD.out).mono ?_
                          rintro e w3 ⟨rfl, hT3, hK3⟩
                          obtain ⟨nd1, nd2, nd3, nd4, nd5, nd6, nd7, nd8, nd9, nd10, nd11, nd12, nd13, nd14, nd15⟩ := HST.out.bl.nd
                          obtain ⟨lo1, lo2, lo3, lo4, lo5, lo6⟩ := HST.out.bl.lo
                          have y2 := hK3.cell y2 (by omega) (by omega)
                          have r1 := Kp.own1 (own_ext HRS.out X2) hK3 (Ne.symm nd2) (Ne.symm nd6)
                          have hrm := HST.out.rm
                          rw [HL.out] at hrm
                          have r2 := Kp.own1 (own_ext hrm X2) hK3 (Ne.symm nd4) (Ne.symm nd8)
                          have hml : ms.length = k := by have := own_n hrm; simpa using this
                          obtain ⟨mo, mo1, _, _⟩ := get_lt (xs := ms) (k := K) (by omega)
                          have c1 := own_cell r1 (j := K) (x := .bool p.sealed) (by simp [Hid, p1.out])
                          have c2 := own_cell r2 (j := K) (x := .int .u64 mo) (by simp [Hid, mo1.out])
                          have f1 := r1.frozenAt K
                          have f2 := r2.frozenAt K
                          have s1 := (two_stores (B2 := B2) r1 r2 nd11 (by omega) (by omega) K K (.bool true) (.int .u64 (IntKind.u64.wrap (z + 1))))
                          have s2 := (two_stores (B2 := B2) r2 r1 (Ne.symm nd11) (by omega) (by omega) K K (.int .u64 (IntKind.u64.wrap (z + 1))) (.bool true))
                          have H1 := Lib.hid s1
                          have H2 := Lib.hid s2
                          have HR1 := Lib.hid r1
                          have HR2 := Lib.hid r2
                          have HT3 := Lib.hid hT3
                          clear s1 s2 r1 r2 hT3 y0 y1 y3 y4 hrm hml
                          go_wp2_with fail
                          go_region
                          all_goals
                            go_wp2_with fail
                            go_roundw
                            case rel =>
                              have hS2 := HST.out.ext X2
                              first
                                | exact ⟨q + 1, cheat, _, _, nv, dss, by omega, by go_num, rfl, by show _ = _; rw [List.length_set]; exact HL.out, hS2.commit p1.out HSD.out HT3.out hK3 (fun e xs h => by rw [HL.out] at h ⊢; exact own_ext (two_stores (B2 := B2) h HR2.out nd11 (by omega) (by omega) K K (.bool true) (.int .u64 (IntKind.u64.wrap (z + 1)))).1 (Ext.refl _).drew) (fun e xs h => by rw [HL.out] at h ⊢; exact own_ext (two_stores (B2 := B2) HR1.out h nd11 (by omega) (by omega) K K (.bool true) (.int .u64 (IntKind.u64.wrap (z + 1)))).2.1 (Ext.refl _).drew) (fun j j1 j2 e sz n c zs h => own_ext (H1.out.2.2.1 j j1 j2 e sz n c zs h) (Ext.refl _).drew) (H1.out.2.2.2.trans (.of (Ext.refl _).drew))⟩
                                | exact ⟨q + 1, cheat, _, _, nv, dss, by omega, by go_num, rfl, by show _ = _; rw [List.length_set]; exact HL.out, hS2.commit p1.out HSD.out HT3.out hK3 (fun e xs h => by rw [HL.out] at h ⊢; exact own_ext (two_stores (B2 := B2) HR2.out h (Ne.symm nd11) (by omega) (by omega) K K (.int .u64 (IntKind.u64.wrap (z + 1))) (.bool true)).2.1 (Ext.refl _).drew) (fun e xs h => by rw [HL.out] at h ⊢; exact own_ext (two_stores (B2 := B2) h HR1.out (Ne.symm nd11) (by omega) (by omega) K K (.int .u64 (IntKind.u64.wrap (z + 1))) (.bool true)).1 (Ext.refl _).drew) (fun j j1 j2 e sz n c zs h => own_ext (H2.out.2.2.1 j j2 j1 e sz n c zs h) (Ext.refl _).drew) (H2.out.2.2.2.trans (.of (Ext.refl _).drew))⟩
                            case measure => simp [intOf]; omega
                      · as_aux_lemma =>
                          have HCM := Lib.hid (fun (W : World) (hW : Ext wr W) s => commit_twice B tb pb n l cheat s K p W (HST.out.tab.ext hW) HCK.out (by rw [HL.out]; exact hKk) p1 HSD.out)
                          go_wp2_with fail
                          refine (HS1.out _ (by exact (Ext.refl wr).alloc _)).mono ?_
                          rintro e w' ⟨rfl, rfl⟩
                          go_wp2_with fail
                          refine (HS2.out _ (by exact (Ext.refl wr).alloc _)).mono ?_
                          rintro e w' ⟨rfl, rfl⟩
                          go_wp2_with fail
                          refine (HSO.out _ (by exact (Ext.refl wr).alloc _)).mono ?_
                          rintro e w2 ⟨rfl, hx2⟩
                          have X2 := ((Ext.refl wr).alloc _).trans hx2
                          obtain ⟨y0, y1, y2, y3, y4⟩ := Y0.out _ hx2
                          clear hx2
                          go_wp2_with fail
                          refine (HCM.out _ (by exact X2) _).mono ?_
                          rintro e w3 ⟨rfl, hx3⟩
                          go_wp2_with fail
                          go_roundw
                          case rel => exact ⟨q + 1, cheat, l, ms, nv, dss, by omega, by go_num, rfl, HL, HST.out.ext (X2.trans hx3)⟩
                          case measure => simp [intOf]; omega
            · by_cases hk0 : pl < 0
              · as_aux_lemma =>
                  have hcm := fun (W : World) (hW : Ext wr W) v s => open_err B tb pb n l cheat pl s v W (HST.out.tab.ext hW) (by rw [chk_out 1 (.inl hk0)]; decide)
                  rw [chk_out 1 (.inl hk0)] at hcm
                  have HCM := Lib.hid hcm
                  clear hcm
                  go_wp2_with fail
                  refine (HS1.out _ (by exact (Ext.refl wr).alloc _)).mono ?_
                  rintro e w' ⟨rfl, rfl⟩
                  go_wp2_with fail
                  refine (HS2.out _ (by exact (Ext.refl wr).alloc _)).mono ?_
                  rintro e w' ⟨rfl, rfl⟩
                  go_wp2_with fail
                  refine (HCM.out _ (by exact (Ext.refl wr).alloc _) _ _).mono ?_
                  rintro e w3 ⟨rfl, hx3⟩
                  have X3 := ((Ext.refl wr).alloc _).trans hx3
                  obtain ⟨y0, y1, y2, y3, y4⟩ := Y0.out _ hx3
                  clear hx3
                  go_wp2_with fail
                  go_quiet (fail)
                  go_wp2_with fail
                  go_roundw
                  case rel => exact ⟨q + 1, cheat, l, ms, nv, dss, by omega, by go_num, rfl, HL, HST.out.ext (X3.drewN _)⟩
                  case measure => simp [intOf]; omega
              · by_cases hk1 : (k : Int) ≤ pl
                · as_aux_lemma =>
                    have hk0 : 0 ≤ pl := by omega
                    have hb8 : decide (pl < (k : Int)) = false := by simp; omega
                    have hcm := fun (W : World) (hW : Ext wr W) v s => open_err B tb pb n l cheat pl s v W (HST.out.tab.ext hW) (by rw [chk_out 1 (.inr (by rw [HL.out]; exact hk1))]; decide)
                    rw [chk_out 1 (.inr (by rw [HL.out]; exact hk1))] at hcm
                    have HCM := Lib.hid hcm
                    clear hcm
                    go_wp2_with fail
                    refine (HS1.out _ (by exact (Ext.refl wr).alloc _)).mono ?_
                    rintro e w' ⟨rfl, rfl⟩
                    go_wp2_with fail
                    refine (HS2.out _ (by exact (Ext.refl wr).alloc _)).mono ?_
                    rintro e w' ⟨rfl, rfl⟩
                    go_wp2_with fail
                    refine (HCM.out _ (by exact (Ext.refl wr).alloc _) _ _).mono ?_
                    rintro e w3 ⟨rfl, hx3⟩
                    have X3 := ((Ext.refl wr).alloc _).trans hx3
                    obtain ⟨y0, y1, y2, y3, y4⟩ := Y0.out _ hx3
                    clear hx3
                    go_wp2_with fail
                    go_quiet (fail)
                    go_wp2_with fail
                    go_roundw
                    case rel => exact ⟨q + 1, cheat, l, ms, nv, dss, by omega, by go_num, rfl, HL, HST.out.ext (X3.drewN _)⟩
                    case measure => simp [intOf]; omega
                · obtain ⟨K, rfl⟩ := Int.eq_ofNat_of_zero_le (show 0 ≤ pl by omega)
                  have hKk : K < k := by omega
                  obtain ⟨p, p1, _, _⟩ := get_lt (xs := l) (k := K) (by rw [HL.out]; exact hKk)
                  have hcK := ((Ext.refl wr).alloc (.cells #[.bool true, .bool wrong, .int .i64 K, .int .i64 sec, .slice dao ds.length dcap] 49)).cell (own_cell HRO.out (j := K) (x := .bool p.opened) (by simp [Hid, p1.out]))
                  have hsw := fun (W : World) (hW : Ext w W) => sealOf_any _ ds sec W (HDS.out.ext hW) (by omega)
                  rw [hz.out] at hsw
                  have HSW := Lib.hid hsw
                  clear hk0 hk1 hsw
                  cases sB
                  · have HSE : Hid (p.sealed = true) := by
                      have := hsB.out
                      simp only [List.any_eq_false] at this
                      have := this p (List.mem_of_getElem? p1.out)
                      simpa [Hid] using this
                    by_cases hc0 : 0 ≤ cheat
                    · as_aux_lemma =>
                        have hst : stageF l cheat ≠ 1 := by simp only [stageF]; rw [if_pos hc0]; decide
                        have hcB : decide (0 ≤ cheat) = true := by simpa using hc0
                        have hcm := fun (W : World) (hW : Ext wr W) v s => open_err B tb pb n l cheat K s v W (HST.out.tab.ext hW) (by rw [chk_state 1 (by omega) (by rw [HL.out]; omega) hst]; decide)
                        rw [chk_state 1 (by omega) (by rw [HL.out]; omega) hst] at hcm
                        have HCM := Lib.hid hcm
                        clear hcm hst
                        go_wp2_with fail
                        refine (HS1.out _ (by exact (Ext.refl wr).alloc _)).mono ?_
                        rintro e w' ⟨rfl, rfl⟩
                        go_wp2_with fail
                        refine (HS2.out _ (by exact (Ext.refl wr).alloc _)).mono ?_
                        rintro e w' ⟨rfl, rfl⟩
                        go_wp2_with fail
                        refine (HCM.out _ (by exact (Ext.refl wr).alloc _) _ _).mono ?_
                        rintro e w3 ⟨rfl, hx3⟩
                        have X3 := ((Ext.refl wr).alloc _).trans hx3
                        obtain ⟨y0, y1, y2, y3, y4⟩ := Y0.out _ hx3
                        clear hx3
                        go_wp2_with fail
                        go_quiet (fail)
                        go_wp2_with fail
                        go_roundw
                        case rel => exact ⟨q + 1, cheat, l, ms, nv, dss, by omega, by go_num, rfl, HL, HST.out.ext (X3.drewN _)⟩
                        case measure => simp [intOf]; omega
                    · have hcB : decide (0 ≤ cheat) = false := by simpa using hc0
                      have hcn : cheat < 0 := by omega
                      cases oB
                      · as_aux_lemma =>
                          have hst : stageF l cheat ≠ 1 := by simp only [stageF, hsB.out, hoB.out]; rw [if_neg hc0]; simp
                          clear hc0
                          have hcm := fun (W : World) (hW : Ext wr W) v s => open_err B tb pb n l cheat K s v W (HST.out.tab.ext hW) (by rw [chk_state 1 (by omega) (by rw [HL.out]; omega) hst]; decide)
                          rw [chk_state 1 (by omega) (by rw [HL.out]; omega) hst] at hcm
                          have HCM := Lib.hid hcm
                          clear hcm hst
                          go_wp2_with fail
                          refine (HS1.out _ (by exact (Ext.refl wr).alloc _)).mono ?_
                          rintro e w' ⟨rfl, rfl⟩
                          go_wp2_with fail
                          refine (HS2.out _ (by exact (Ext.refl wr).alloc _)).mono ?_
                          rintro e w' ⟨rfl, rfl⟩
                          go_wp2_with fail
                          refine (HCM.out _ (by exact (Ext.refl wr).alloc _) _ _).mono ?_
                          rintro e w3 ⟨rfl, hx3⟩
                          have X3 := ((Ext.refl wr).alloc _).trans hx3
                          obtain ⟨y0, y1, y2, y3, y4⟩ := Y0.out _ hx3
                          clear hx3
                          go_wp2_with fail
                          go_quiet (fail)
                          go_wp2_with fail
                          go_roundw
                          case rel => exact ⟨q + 1, cheat, l, ms, nv, dss, by omega, by go_num, rfl, HL, HST.out.ext (X3.drewN _)⟩
                          case measure => simp [intOf]; omega
                      · have hst : stageF l cheat = 1 := by simp only [stageF, hsB.out, hoB.out]; rw [if_neg hc0]; rfl
                        have HCK := Lib.hid (chk_ok (l := l) (cheat := cheat) (k := K) 1 (by omega) (by rw [HL.out]; omega) hst)
                        clear hst hc0
                        obtain ⟨so, hso⟩ : ∃ so, p.opened = so := ⟨_, rfl⟩
                        rw [hso] at hcK
                        have HSD := Lib.hid hso
                        clear hso
                        cases so
                        · by_cases hf : drawsErr n ds = 0
                          · have hde := fun (W : World) (hW : Ext w W) => drawsError_any n _ ds W (HDS.out.ext hW) (by omega)
                            rw [hf] at hde
                            have HDE := Lib.hid hde
                            have HDF := Lib.hid hf
                            clear hde hf
                            by_cases hzp : z = p.mark
                            · as_aux_lemma =>
                                have hzB : (z == p.mark) = true := by simp [hzp]
                                have HZN : Hid ((sealF ds sec != p.mark) = false) := by rw [hz.out]; simp [Hid, hzp]
                                clear hzp
                                go_wp2_with fail
                                refine (HS1.out _ (by exact (Ext.refl wr).alloc _)).mono ?_
                                rintro e w' ⟨rfl, rfl⟩
                                go_wp2_with fail
                                refine (HS2.out _ (by exact (Ext.refl wr).alloc _)).mono ?_
                                rintro e w' ⟨rfl, rfl⟩
                                go_wp2_with fail
                                refine (open_ok B tb pb n (by omega) l cheat sec _ ds K p _ (HST.out.tab.ext ((Ext.refl wr).alloc _)) (HDR.out.ext ((Ext.refl wr).alloc _)) HCK.out (by rw [HL.out]; exact hKk) p1 HSD.out HDF.out (by omega) HZN.out).mono ?_
                                rintro e w3 ⟨rfl, ⟨da, dc, hT3, hO3⟩, hK3⟩
                                obtain ⟨nd1, nd2, nd3, nd4, nd5, nd6, nd7, nd8, nd9, nd10, nd11, nd12, nd13, nd14, nd15⟩ := HST.out.bl.nd
                                obtain ⟨lo1, lo2, lo3, lo4, lo5, lo6⟩ := HST.out.bl.lo
                                have X3 : Ext w w3 := (Mid.kp hK3 lo1 lo2).ext (hX.alloc _) hBw
                                obtain ⟨y0, y1, y2, y3, y4⟩ := Y0.out _ (Ext.refl _)
                                have y2 := hK3.cell y2 (by omega) (by omega)
                                have y3 := hK3.cell y3 (by omega) (by omega)
                                have y4 := hK3.cell y4 (by omega) (by omega)
                                have hrm := HST.out.rm
                                rw [HL.out] at hrm
                                have r3 := Kp.own1 (own_ext hrm ((Ext.refl wr).alloc _)) hK3 (Ne.symm nd4) (Ne.symm nd8)
                                have hmk := HST.out.mrk K p p1.out HSE.out
                                have cm := own_cell r3 (j := K) (x := .int .u64 p.mark) (by simp [Hid, hmk])
                                have HMK := Lib.hid hmk
                                clear y0 y1 hrm r3 hmk
                                go_wp2_with fail
                                go_region_held3 (fun W => W.cell? ⟨wr.heap.size, 2, none⟩ = some (.int .i64 K) ∧ W.cell? ⟨wr.heap.size, 3, none⟩ = some (.int .i64 sec) ∧ W.cell? ⟨wr.heap.size, 4, none⟩ = some (.slice dao ds.length dcap) ∧ W.cell? ⟨mb, K, none⟩ = some (.int .u64 p.mark))
                                  (first | exact ⟨y2, y3, y4, cm⟩ | exact ⟨hx4.cell y2, hx4.cell y3, hx4.cell y4, hx4.cell cm⟩ | go_keep)
                                  (first
                                  | (go_at_call 28; refine (HDE.out _ (by exact X3.drew)).mono ?_; rintro e w4 ⟨rfl, rfl⟩)
                                  | (go_at_call 26; refine (HSW.out _ (by exact X3.drew)).mono ?_; rintro e w4 ⟨rfl, hx4⟩))
                                all_goals
                                  have X34 := (Ext.refl w3).drew.trans hx4
                                  have y2 := hx4.cell y2
                                  have y4 := hx4.cell y4
                                  have HT3 := Lib.hid hT3
                                  have HO3 := Lib.hid hO3
                                  have r1 := own_ext (Kp.own1 (own_ext HRO.out ((Ext.refl wr).alloc _)) hK3 (Ne.symm nd3) (Ne.symm nd7)) X34
                                  have hrn := HST.out.rn
                                  rw [HL.out] at hrn
                                  have hnl : nv.length = k := by have := own_n hrn; simpa using this
                                  obtain ⟨no, no1, _, _⟩ := get_lt (xs := nv) (k := K) (by omega)
                                  have r2 := own_ext (Kp.own1 (own_ext hrn ((Ext.refl wr).alloc _)) hK3 (Ne.symm nd5) (Ne.symm nd9)) X34
                                  have c1 := own_cell r1 (j := K) (x := .bool p.opened) (by simp [Hid, p1.out])
                                  have c2 := own_cell r2 (j := K) (x := no) no1
                                  have f1 := r1.frozenAt K
                                  have f2 := r2.frozenAt K
                                  have H1 := Lib.hid (two_stores (B2 := B2) r1 r2 nd14 (by omega) (by omega) K K (.bool true) (.slice dao ds.length dcap))
                                  have H2 := Lib.hid (two_stores (B2 := B2) r2 r1 (Ne.symm nd14) (by omega) (by omega) K K (.slice dao ds.length dcap) (.bool true))
                                  have HR1 := Lib.hid r1
                                  have HR2 := Lib.hid r2
                                  clear r1 r2 hT3 hO3 hrn hnl cm
                                  go_wp2_with fail
                                  go_region
                                  all_goals
                                    go_wp2_with fail
                                    go_roundw
                                    case rel =>
                                      have hS2 := HST.out.ext ((Ext.refl wr).alloc (.cells #[.bool true, .bool wrong, .int .i64 K, .int .i64 sec, .slice dao ds.length dcap] 49))
                                      have hT4 := HT3.out
                                      first
                                        | exact ⟨q + 1, cheat, _, ms, _, _, by omega, by go_num, rfl, by show _ = _; rw [List.length_set]; exact HL.out, St.ext (hS2.openOk (w2 := (w4.setCell ⟨ob, K, none⟩ (.bool true)).setCell ⟨nb, K, none⟩ (.slice dao ds.length dcap)) p1.out (by omega) hsB.out hT4 hK3 HDS.out HDF.out HO3.out (by simp; omega) (fun e xs h => by rw [HL.out] at h ⊢; exact (two_stores (B2 := B2) (own_ext h X34) HR2.out nd14 (by omega) (by omega) K K (.bool true) (.slice dao ds.length dcap)).1) (fun e xs h => by rw [HL.out] at h ⊢; exact (two_stores (B2 := B2) HR1.out (own_ext h X34) nd14 (by omega) (by omega) K K (.bool true) (.slice dao ds.length dcap)).2.1) (fun j j1 j2 e sz n c zs h => H1.out.2.2.1 j j1 j2 e sz n c zs (own_ext h X34)) ((Mid.of X34).trans H1.out.2.2.2) (by omega)) (Ext.refl _).drew⟩
                                        | exact ⟨q + 1, cheat, _, ms, _, _, by omega, by go_num, rfl, by show _ = _; rw [List.length_set]; exact HL.out, St.ext (hS2.openOk (w2 := (w4.setCell ⟨nb, K, none⟩ (.slice dao ds.length dcap)).setCell ⟨ob, K, none⟩ (.bool true)) p1.out (by omega) hsB.out hT4 hK3 HDS.out HDF.out HO3.out (by simp; omega) (fun e xs h => by rw [HL.out] at h ⊢; exact (two_stores (B2 := B2) HR2.out (own_ext h X34) (Ne.symm nd14) (by omega) (by omega) K K (.slice dao ds.length dcap) (.bool true)).2.1) (fun e xs h => by rw [HL.out] at h ⊢; exact (two_stores (B2 := B2) (own_ext h X34) HR1.out (Ne.symm nd14) (by omega) (by omega) K K (.slice dao ds.length dcap) (.bool true)).1) (fun j j1 j2 e sz n c zs h => H2.out.2.2.1 j j2 j1 e sz n c zs (own_ext h X34)) ((Mid.of X34).trans H2.out.2.2.2) (by omega)) (Ext.refl _).drew⟩
                                    case measure => simp [intOf]; omega
                            · as_aux_lemma =>
                                have hzB : (z == p.mark) = false := by simp [hzp]
                                have HZN : Hid ((sealF ds sec != p.mark) = true) := by rw [hz.out]; simp [Hid, hzp]
                                clear hzp
                                go_wp2_with fail
                                refine (HS1.out _ (by exact (Ext.refl wr).alloc _)).mono ?_
                                rintro e w' ⟨rfl, rfl⟩
                                go_wp2_with fail
                                refine (HS2.out _ (by exact (Ext.refl wr).alloc _)).mono ?_
                                rintro e w' ⟨rfl, rfl⟩
                                go_wp2_with fail
                                refine (open_bad2 B tb pb n (by omega) l cheat sec _ ds K p _ (HST.out.tab.ext ((Ext.refl wr).alloc _)) (HDR.out.ext ((Ext.refl wr).alloc _)) HCK.out (by rw [HL.out]; exact hKk) p1 HSD.out HDF.out (by omega) HZN.out).mono ?_
                                rintro e w3 ⟨rfl, hT3, hK3⟩
                                obtain ⟨nd1, nd2, nd3, nd4, nd5, nd6, nd7, nd8, nd9, nd10, nd11, nd12, nd13, nd14, nd15⟩ := HST.out.bl.nd
                                obtain ⟨lo1, lo2, lo3, lo4, lo5, lo6⟩ := HST.out.bl.lo
                                have X3 : Ext w w3 := (Mid.kp hK3 lo1 lo2).ext (hX.alloc _) hBw
                                obtain ⟨y0, y1, y2, y3, y4⟩ := Y0.out _ (Ext.refl _)
                                have y2 := hK3.cell y2 (by omega) (by omega)
                                have y3 := hK3.cell y3 (by omega) (by omega)
                                have y4 := hK3.cell y4 (by omega) (by omega)
                                have hrm := HST.out.rm
                                rw [HL.out] at hrm
                                have r3 := Kp.own1 (own_ext hrm ((Ext.refl wr).alloc _)) hK3 (Ne.symm nd4) (Ne.symm nd8)
                                have hmk := HST.out.mrk K p p1.out HSE.out
                                have cm := own_cell r3 (j := K) (x := .int .u64 p.mark) (by simp [Hid, hmk])
                                have HMK := Lib.hid hmk
                                clear y0 y1 hrm r3 hmk
                                go_wp2_with fail
                                go_region_held3 (fun W => W.cell? ⟨wr.heap.size, 2, none⟩ = some (.int .i64 K) ∧ W.cell? ⟨wr.heap.size, 3, none⟩ = some (.int .i64 sec) ∧ W.cell? ⟨wr.heap.size, 4, none⟩ = some (.slice dao ds.length dcap) ∧ W.cell? ⟨mb, K, none⟩ = some (.int .u64 p.mark))
                                  (first | exact ⟨y2, y3, y4, cm⟩ | exact ⟨hx4.cell y2, hx4.cell y3, hx4.cell y4, hx4.cell cm⟩ | go_keep)
                                  (first
                                  | (go_at_call 28; refine (HDE.out _ (by exact X3.drew)).mono ?_; rintro e w4 ⟨rfl, rfl⟩)
                                  | (go_at_call 26; refine (HSW.out _ (by exact X3.drew)).mono ?_; rintro e w4 ⟨rfl, hx4⟩))
                                all_goals
                                  have X34 := (Ext.refl w3).drew.trans hx4
                                  have HT3 := Lib.hid hT3
                                  clear hT3 cm
                                  go_wp2_with fail
                                  go_roundw
                                  case rel => exact ⟨q + 1, K, l, ms, nv, dss, by omega, by go_num, rfl, HL, St.ext ((HST.out.ext ((Ext.refl wr).alloc (.cells #[.bool true, .bool wrong, .int .i64 K, .int .i64 sec, .slice dao ds.length dcap] 49))).openBad p1.out HSD.out hsB.out HT3.out hK3) X34⟩
                                  case measure => simp [intOf]; omega
                          · as_aux_lemma =>
                              obtain ⟨de, hde0⟩ : ∃ de, drawsErr n ds = de := ⟨_, rfl⟩
                              have hde := fun (W : World) (hW : Ext w W) => (drawsError_any n _ ds W (HDS.out.ext hW) (by omega)).mono (fun _ _ h => (⟨h.1, h.2.symm⟩ : _ ∧ _))
                              rw [hde0] at hde
                              have HDE := Lib.hid hde
                              have HDF := Lib.hid hf
                              have hdB : (de == 0) = false := by simp [← hde0, hf]
                              clear hde hf hde0
                              go_wp2_with fail
                              refine (HS1.out _ (by exact (Ext.refl wr).alloc _)).mono ?_
                              rintro e w' ⟨rfl, rfl⟩
                              go_wp2_with fail
                              refine (HS2.out _ (by exact (Ext.refl wr).alloc _)).mono ?_
                              rintro e w' ⟨rfl, rfl⟩
                              go_wp2_with fail
                              refine (open_bad1 B tb pb n (by omega) l cheat sec _ ds K p _ (HST.out.tab.ext ((Ext.refl wr).alloc _)) (HDR.out.ext ((Ext.refl wr).alloc _)) HCK.out (by rw [HL.out]; exact hKk) p1 HSD.out HDF.out).mono ?_
                              rintro e w3 ⟨rfl, hT3, hK3⟩
                              obtain ⟨nd1, nd2, nd3, nd4, nd5, nd6, nd7, nd8, nd9, nd10, nd11, nd12, nd13, nd14, nd15⟩ := HST.out.bl.nd
                              obtain ⟨lo1, lo2, lo3, lo4, lo5, lo6⟩ := HST.out.bl.lo
                              have X3 : Ext w w3 := (Mid.kp hK3 lo1 lo2).ext (hX.alloc _) hBw
                              obtain ⟨y0, y1, y2, y3, y4⟩ := Y0.out _ (Ext.refl _)
                              have y2 := hK3.cell y2 (by omega) (by omega)
                              have y3 := hK3.cell y3 (by omega) (by omega)
                              have y4 := hK3.cell y4 (by omega) (by omega)
                              have hrm := HST.out.rm
                              rw [HL.out] at hrm
                              have r3 := Kp.own1 (own_ext hrm ((Ext.refl wr).alloc _)) hK3 (Ne.symm nd4) (Ne.symm nd8)
                              have hmk := HST.out.mrk K p p1.out HSE.out
                              have cm := own_cell r3 (j := K) (x := .int .u64 p.mark) (by simp [Hid, hmk])
                              have HMK := Lib.hid hmk
                              clear y0 y1 hrm r3 hmk
                              go_wp2_with fail
                              have HT3 := Lib.hid hT3
                              clear hT3 cm
                              go_quiet (first | (go_at_call 28; refine Calls.quiet_of_same (HDE.out _ (by exact X3.drewN _))))
                              go_wp2_with fail
                              go_roundw
                              case rel => exact ⟨q + 1, K, l, ms, nv, dss, by omega, by go_num, rfl, HL, St.ext ((HST.out.ext ((Ext.refl wr).alloc (.cells #[.bool true, .bool wrong, .int .i64 K, .int .i64 sec, .slice dao ds.length dcap] 49))).openBad p1.out HSD.out hsB.out HT3.out hK3) ((Ext.refl _).drewN _)⟩
                              case measure => simp [intOf]; omega
                        · as_aux_lemma =>
                            have HCM := Lib.hid (fun (W : World) (hW : Ext wr W) v s => open_twice B tb pb n l cheat s v K p W (HST.out.tab.ext hW) HCK.out (by rw [HL.out]; exact hKk) p1 HSD.out)
                            go_wp2_with fail
                            refine (HS1.out _ (by exact (Ext.refl wr).alloc _)).mono ?_
                            rintro e w' ⟨rfl, rfl⟩
                            go_wp2_with fail
                            refine (HS2.out _ (by exact (Ext.refl wr).alloc _)).mono ?_
                            rintro e w' ⟨rfl, rfl⟩
                            go_wp2_with fail
                            refine (HCM.out _ (by exact (Ext.refl wr).alloc _) _ _).mono ?_
                            rintro e w3 ⟨rfl, hx3⟩
                            have X3 := ((Ext.refl wr).alloc _).trans hx3
                            obtain ⟨y0, y1, y2, y3, y4⟩ := Y0.out _ hx3
                            clear hx3
                            go_wp2_with fail
                            go_quiet (fail)
                            go_wp2_with fail
                            go_roundw
                            case rel => exact ⟨q + 1, cheat, l, ms, nv, dss, by omega, by go_num, rfl, HL, HST.out.ext (X3.drewN _)⟩
                            case measure => simp [intOf]; omega
                  · as_aux_lemma =>
                      have hc0 : cheat < 0 := by
                        by_cases h : 0 ≤ cheat
                        · have := (HST.out.i2 h).1; rw [hsB.out] at this; cases this
                        · omega
                      have hst : stageF l cheat ≠ 1 := by simp only [stageF]; rw [if_neg (by omega), if_pos hsB.out]; decide
                      have hcm := fun (W : World) (hW : Ext wr W) v s => open_err B tb pb n l cheat K s v W (HST.out.tab.ext hW) (by rw [chk_state 1 (by omega) (by rw [HL.out]; omega) hst]; decide)
                      rw [chk_state 1 (by omega) (by rw [HL.out]; omega) hst] at hcm
                      have HCM := Lib.hid hcm
                      clear hcm hst
                      go_wp2_with fail
                      refine (HS1.out _ (by exact (Ext.refl wr).alloc _)).mono ?_
                      rintro e w' ⟨rfl, rfl⟩
                      go_wp2_with fail
                      refine (HS2.out _ (by exact (Ext.refl wr).alloc _)).mono ?_
                      rintro e w' ⟨rfl, rfl⟩
                      go_wp2_with fail
                      refine (HCM.out _ (by exact (Ext.refl wr).alloc _) _ _).mono ?_
                      rintro e w3 ⟨rfl, hx3⟩
                      have X3 := ((Ext.refl wr).alloc _).trans hx3
                      obtain ⟨y0, y1, y2, y3, y4⟩ := Y0.out _ hx3
                      clear hx3
                      go_wp2_with fail
                      go_quiet (fail)
                      go_wp2_with fail
                      go_roundw
                      case rel => exact ⟨q + 1, cheat, l, ms, nv, dss, by omega, by go_num, rfl, HL, HST.out.ext (X3.drewN _)⟩
                      case measure => simp [intOf]; omega
          · have hst := St.dealt HST.out h52 hBw HX0.out
            rw [HL.out] at hst
            have HD := Lib.hid hst
            clear hst
            go_wp2_with fail
            refine HD.out.mono ?_
            rintro e w2 ⟨rfl, hx2⟩
            go_wp2_with fail
            go_ret
            exact ⟨rfl, hX.trans hx2⟩
end Go.Proofs.Ytllhgkacbpgemaa
