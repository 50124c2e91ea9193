/- texts merged: RcI RcJ RcK RcL -/
import Derived.Test.YtkfheeffbombhaaGreatDoorTrBX
import Derived.Test.YtkfheeffbombhaaGreatDoorTrQX
import Derived.Test.YtkfheeffbombhaaGreatDoorRcAD
import Derived.Test.YtkfheeffbombhaaGreatDoorRtH
import Derived.Test.YtkfheeffbombhaaGreatDoorRcEH
import Derived.Test.YtkfheeffbombhaaGreatDoorRgY
import Derived.Test.YtkfheeffbombhaaGreatDoorTrYX
import Derived.Test.YtkfheeffbombhaaGreatDoorRtI
import Derived.Laws.StructEq
import Derived.BigQuiet
import Derived.Deep.RegionHeld3
/- walks of package recall: Strategy, Odds -/
namespace Go.Proofs.YtkfheeffbombhaaGreatDoor
open Go.RowKit
set_option linter.unusedVariables false

/-! ### what keeps its cells -/
/-- all cells stay as they are -/
def Keeps (w w' : World) : Prop := ∀ p v, w.cell? p = some v → w'.cell? p = some v
theorem Keeps.of {w w' : World} (h : Ext w w') : Keeps w w' := fun _ _ hc => h.cell hc
theorem Keeps.trans {a b c : World} (h : Keeps a b) (k : Keeps b c) : Keeps a c := fun p v hc => k p v (h p v hc)
theorem Row.keeps {w w' : World} {v : Value} {vs : List Value} (h : Row w v vs) (hk : Keeps w w') : Row w' v vs := by
  obtain ⟨ao, c, h1, h2, h3, h4, h5⟩ := h
  refine ⟨ao, c, h1, h2, h3, h4, fun i u hu => ?_⟩
  obtain ⟨b, off, e, hc⟩ := h5 i u hu
  exact ⟨b, off, e, hk _ _ hc⟩
theorem IntV.keeps {w w' : World} {v : Value} {z : Int} (h : IntV w v z) (hk : Keeps w w') : IntV w' v z := by
  obtain ⟨q, ao, l, c, h1, h2, h3, h4⟩ := h
  exact ⟨q, ao, l, c, h1, h2, h3, Row.keeps h4 hk⟩
theorem QV.keeps {w w' : World} {v : Value} {q : Rat} (h : QV w v q) (hk : Keeps w w') : QV w' v q := by
  obtain ⟨s, ao, l, c, ao2, l2, c2, h1, h2, h3, h4⟩ := h
  exact ⟨s, ao, l, c, ao2, l2, c2, h1, h2.keeps hk, h3, Row.keeps h4 hk⟩
theorem QsV.keeps {w w' : World} {v : Value} {qs : List Rat} (h : QsV w v qs) (hk : Keeps w w') : QsV w' v qs := by
  obtain ⟨ao, c, ts, h1, h2, h3, h4, h5⟩ := h
  refine ⟨ao, c, ts, h1, h2, h3, fun i t ht => ?_, fun i t q a b => (h5 i t q a b).keeps hk⟩
  obtain ⟨b, e, c0, c1, c2⟩ := h4 i t ht
  exact ⟨b, e, hk _ _ c0, hk _ _ c1, hk _ _ c2⟩
/-- a map's store keeps all cells -/
theorem MapG.keeps {ι : Type} [DecidableEq ι] {P : Program} {k : TypeId} {enc : ι → Value} {dom : ι → Prop} {w w' : World} {b n : Nat} {f : ι → Option Value} (h : MapG P k enc dom w b n f) (hg : w.grownBy w' (some b)) : Keeps w w' := fun p v hc => by
  obtain ⟨D, ⟨es, clock, hb, _⟩, _⟩ := h
  refine hg.cell hc fun e => ?_
  have e2 : p.block = b := Option.some.inj e
  unfold World.cell? at hc
  rw [e2, hb] at hc
  cases hc

/-! ### Strategy -/
set_option maxHeartbeats 6400000 in
set_option maxRecDepth 100000 in
theorem strategy_any (v u : Value) (T : List Nd) (p : Int) (S : List Ch) (w : World) (htab : TabPow w) (hv : TreeIn w v T) (hT : Valid T) (hu : StrIn w u S) (hz : StrSz S) :
    Calls Tryz.prog 38 #[v, .int .i64 p, u] w fun e w' => e = .returned (.int .i64 (strategyE T p S)) ∧ Ext w w' := by
  obtain ⟨wo, rfl⟩ : ∃ wo : World, wo = w := ⟨_, rfl⟩
  have HSE := Lib.hid (sets_any v T p wo hv)
  have HTB := Lib.hid htab
  have HFS := Lib.hid (setsP_valid hT p)
  have HFD : Hid ((setsP T p).map (·.2) = (infosT T p).map fun q => (widthT T p q : Int)) := by
    show _ = _
    rw [← setsP_valid hT p]
    unfold setsP
    rw [List.map_map, List.map_map, List.map_map]
    rfl
  obtain ⟨ao, c, rfl, hlen, _⟩ := hv.open
  obtain ⟨so, sc, rfl, hsl, hs⟩ := hu.open
  have HS := Lib.hid hs
  have HZ := Lib.hid hz
  obtain ⟨Q, hQ⟩ : ∃ Q, strategyE T p S = Q := ⟨_, rfl⟩
  rw [hQ]
  unfold strategyE at hQ
  have HI10 : (infosT T p).length ≤ 10 := by
    unfold infosT
    have := List.length_filter_le (fun q => decide (0 < widthT T p q)) ((List.range 10).map Int.ofNat)
    simpa using this
  unfold SetsPost at HSE
  rw [HFS.out, HFD.out] at HSE
  obtain ⟨wd, hwd⟩ : ∃ wd, widthT T p = wd := ⟨_, rfl⟩
  rw [hwd] at HSE hQ
  generalize infosT T p = I at *
  clear hv hu hs hz HFS HFD htab hT hwd
  by_cases hl : I.length = S.length
  · rw [if_neg (by simpa using hl)] at hQ
    have HQ := Lib.hid hQ
    have HLL := Lib.hid hl
    have hb0 : ((S.length : Int) != (S.length : Int)) = false := by simp
    clear hQ
    go_enter Tryz.func38, Tryz.ntmps38
    go_wp2_with fail
    refine HSE.out.mono ?_
    rintro e w1 ⟨_, rfl, iv0, wv0, rfl, hI, hW, X1⟩
    obtain ⟨io, ic, rfl, _, hic⟩ := hI.open
    obtain ⟨jo, jc, rfl, _, hwc⟩ := hW.open
    have HIC := Lib.hid hic
    have HWC := Lib.hid hwc
    rw [List.length_map, hl]
    rw [hl] at HI10
    clear hI hW hic hwc hl HSE
    go_wp2_with fail
    go_loopw [25] (fun jv wr => ∃ (j : Nat), j ≤ S.length ∧ jv = .int .i64 j ∧ Hid (strF wd (I.drop j) (S.drop j) = Q) ∧ Ext w1 wr) (fun jv _ => S.length - (intOf jv).toNat)
    case atStart => exact ⟨0, Nat.zero_le _, rfl, by show _ = _; rw [List.drop_zero, List.drop_zero]; exact HQ.out, Ext.refl _⟩
    case round =>
      obtain ⟨j, hj, rfl, HE, X⟩ := hrel
      by_cases hlt : j < S.length
      · obtain ⟨ch, d1, d2, d3⟩ := get_lt hlt
        obtain ⟨q, e1, e2, e3⟩ := get_lt (xs := I) (k := j) (by rw [HLL.out]; exact hlt)
        have hE := HE.out
        rw [d2.out, e2.out, strF] at hE
        obtain ⟨b, off, oo, oc, rfl, c0, c1, hod⟩ := (HS.out.ext (X1.trans X)).at d1
        obtain ⟨b2, off2, rfl, hq0⟩ := (HIC.out.ext X).at e1
        have hiw : (I.map fun q => (wd q : Int))[j]? = some (wd q : Int) := by rw [List.getElem?_map, e1.out]; rfl
        obtain ⟨b3, off3, rfl, hw0⟩ := (HWC.out.ext X).at (Lib.hid hiw)
        have hq0 : wr.cell? ⟨b2, off2 + j, none⟩ = some (.int .i64 q) := hq0
        have hw0 : wr.cell? ⟨b3, off3 + j, none⟩ = some (.int .i64 (wd q : Int)) := hw0
        have hjj : (j : Int) < (S.length : Int) := by omega
        have HOE := Lib.hid (fun W (hX : Ext wr W) => odds_any _ ch.2 W (tabPow_ext HTB.out ((X1.trans X).trans hX)) (hod.ext hX) (HZ.out ch (List.mem_of_getElem? d1.out)))
        obtain ⟨ci, os⟩ := ch
        dsimp only at c0 c1 hod hE HOE
        obtain ⟨T7, hT7⟩ : ∃ T7, wr.heap.size = T7 := ⟨_, rfl⟩
        obtain ⟨W1, hW1⟩ : ∃ W1, wr.alloc (.cells #[.int .i64 ci, .slice oo os.length oc] 74) = W1 := ⟨_, rfl⟩
        have X2 : Ext wr W1 := by rw [← hW1]; exact (Ext.refl wr).alloc _
        have y0 : W1.cell? ⟨T7, 0, none⟩ = some (.int .i64 ci) := by rw [← hW1, ← hT7]; simp [go_sem]
        have y1 : W1.cell? ⟨T7, 1, none⟩ = some (.slice oo os.length oc) := by rw [← hW1, ← hT7]; simp [go_sem]
        have z0 := X2.cell hq0
        have z1 := X2.cell hw0
        have HX2 := Lib.hid (X.trans X2)
        have HX3 := Lib.hid X2
        have HY1 := Lib.hid y1
        obtain ⟨m, hm⟩ : ∃ m, wd q = m := ⟨_, rfl⟩
        obtain ⟨n, hn⟩ : ∃ n, os.length = n := ⟨_, rfl⟩
        obtain ⟨O, hO⟩ : ∃ O, oddsE os = O := ⟨_, rfl⟩
        rw [hm] at z1 hw0 hE
        rw [hn] at hE c1 y1 hW1 HOE HY1
        rw [hO] at hE HOE
        clear d1 d2 d3 e1 e2 e3 hlt hod hm hn hO HE X X2 HS HIC HWC hiw
        by_cases a1 : ci = q
        · subst a1
          have bf1 : (ci != ci) = false := by simp
          by_cases a2 : n = m
          · subst a2
            rw [if_neg (by simp)] at hE
            have bf2 : ((n : Int) != (n : Int)) = false := by simp
            by_cases a3 : O = 0
            · subst a3
              rw [if_neg (by simp)] at hE
              have HE2 := Lib.hid hE
              clear hE
              go_wp2_with fail
              clear c0 c1 hq0 hw0 hW1 hT7
              go_quiet (fail)
              have y1 := ((Ext.refl W1).drewN nq).cell HY1.out
              go_wp2_with fail
              refine (HOE.out _ (HX3.out.drewN _)).mono ?_
              rintro e w6 ⟨rfl, X6⟩
              go_wp2_with fail
              go_roundw
              case rel => exact ⟨j + 1, by omega, by go_num, HE2, (HX2.out.drewN _).trans X6⟩
              case measure => simp [intOf]; omega
            · rw [if_pos a3] at hE
              subst hE
              have bo : (O != 0) = true := by simp [a3]
              clear a3
              go_wp2_with fail
              clear c0 c1 hq0 hw0 hW1 hT7
              go_quiet (fail)
              have y1 := ((Ext.refl W1).drewN nq).cell HY1.out
              go_wp2_with fail
              refine (HOE.out _ (HX3.out.drewN _)).mono ?_
              rintro e w6 ⟨rfl, X6⟩
              go_wp2_with fail
              go_ret
              exact ⟨rfl, (X1.trans (HX2.out.drewN _)).trans X6⟩
          · have hq : Q = 3 := by rw [← hE, if_pos (.inr a2)]
            subst hq
            have bf2 : ((n : Int) != (m : Int)) = true := by rw [bne_iff_ne]; omega
            clear hE a2
            go_wp2_with fail
            clear c0 c1 hq0 hw0 hW1 hT7
            go_quiet (fail)
            go_wp2_with fail
            go_ret
            exact ⟨rfl, X1.trans (HX2.out.drewN _)⟩
        · have hq : Q = 3 := by rw [← hE, if_pos (.inl a1)]
          subst hq
          have bf1 : (ci != q) = true := by rw [bne_iff_ne]; exact a1
          clear hE a1
          go_wp2_with fail
          clear c0 c1 hq0 hw0 hW1 hT7
          go_quiet (fail)
          go_wp2_with fail
          go_ret
          exact ⟨rfl, X1.trans (HX2.out.drewN _)⟩
      · have hje : j = S.length := by omega
        subst hje
        have hE := HE.out
        rw [List.drop_length, show I.drop S.length = [] by rw [← HLL.out, List.drop_length]] at hE
        have hq : Q = 0 := by rw [← hE]; rfl
        subst hq
        have hge : ¬ (S.length : Int) < (S.length : Int) := by omega
        clear hlt hE
        go_wp2_with fail
        go_ret
        exact ⟨rfl, X1.trans X⟩
  · rw [if_pos hl] at hQ
    subst hQ
    have hb0 : ((S.length : Int) != (I.length : Int)) = true := by rw [bne_iff_ne]; omega
    clear hl
    go_enter Tryz.func38, Tryz.ntmps38
    go_wp2_with fail
    refine HSE.out.mono ?_
    rintro e w1 ⟨_, rfl, iv0, wv0, rfl, hI, hW, X1⟩
    obtain ⟨io, ic, rfl, _, _⟩ := hI.open
    obtain ⟨jo, jc, rfl, _, _⟩ := hW.open
    rw [List.length_map]
    clear hI hW
    go_wp2_with fail
    go_ret
    exact ⟨rfl, X1⟩

/-! ### Odds -/
/-- what Odds leaves -/
def OddsPost (S : List Ch) (u : Value) (w w' : World) : Prop := ∃ b n f, u = .map (some b) ∧ MapG Tryz.prog 3 (Value.int .i64) (fun i : Int => (Lit.int .i64 i).wf = true) w' b n f ∧ (∀ (j : Nat) (ch : Ch), S[j]? = some ch → ∃ x, f ch.1 = some x ∧ QsV w' x (ch.2.map ratOf)) ∧ Ext w w'

set_option maxHeartbeats 6400000 in
set_option maxRecDepth 100000 in
theorem oddsMap_any (u : Value) (S : List Ch) (w : World) (hu : StrIn w u S) (hz : StrSz S) (hnd : (S.map (·.1)).Nodup) (hok : ∀ c ∈ S, ∀ s ∈ c.2, RatOk s) (hdm : ∀ c ∈ S, (Lit.int .i64 c.1).wf = true) (hln : ∀ c ∈ S, c.2.length ≤ 1000000) (hl : S.length ≤ 1000000) :
    Calls Tryz.prog 69 #[u] w fun e w' => ∃ u, e = .returned u ∧ OddsPost S u w w' := by
  obtain ⟨wo, rfl⟩ : ∃ wo : World, wo = w := ⟨_, rfl⟩
  obtain ⟨so, sc, rfl, hsl, hs⟩ := hu.open
  have HS := Lib.hid hs
  have HZ := Lib.hid hz
  have HOK := Lib.hid hok
  have HDM := Lib.hid hdm
  have HLN := Lib.hid hln
  have HNE := Lib.hid (fun (i j : Nat) (a b : Ch) (h1 : S[i]? = some a) (h2 : S[j]? = some b) (hij : i < j) (e : a.1 = b.1) => (by
    obtain ⟨p1, p2⟩ := List.getElem?_eq_some_iff.1 h1
    obtain ⟨q1, q2⟩ := List.getElem?_eq_some_iff.1 h2
    have := (List.pairwise_iff_getElem.1 hnd) i j (by simpa using p1) (by simpa using q1) hij
    rw [List.getElem_map, List.getElem_map, p2, q2] at this
    exact this e : False))
  clear hs hz hok hdm hln hnd hu
  have hmm := @run_makeMap Tryz.prog
  go_enter Tryz.func69, Tryz.ntmps69
  go_wp2_with fail
  go_loopw [9] (fun jv wr => ∃ (j : Nat) (f : Int → Option Value), j ≤ S.length ∧ jv = .int .i64 j ∧ Hid (MapG Tryz.prog 3 (Value.int .i64) (fun i : Int => (Lit.int .i64 i).wf = true) wr wo.heap.size j f) ∧ Hid (∀ (i : Nat) (ch : Ch), i < j → S[i]? = some ch → ∃ x, f ch.1 = some x ∧ QsV wr x (ch.2.map ratOf)) ∧ Ext wo wr) (fun jv _ => S.length - (intOf jv).toNat)
  case atStart => exact ⟨0, fun _ => none, Nat.zero_le _, rfl, MapG.made wo, (fun i ch h => absurd h (by omega)), (Ext.refl wo).alloc _⟩
  case round =>
    obtain ⟨j, f, hj, rfl, HM, HF, X⟩ := hrel
    by_cases hlt : j < S.length
    · obtain ⟨ch, d1, d2, d3⟩ := get_lt hlt
      obtain ⟨b, off, oo, oc, rfl, c0, c1, hod⟩ := (HS.out.ext X).at d1
      have hjj : (j : Int) < (S.length : Int) := by omega
      have hcm := List.mem_of_getElem? d1.out
      have HD1 := Lib.hid d1.out
      have HRI := Lib.hid (fun W (hX : Ext wr W) => ratIn_any (.slice oo ch.2.length oc) ch.2 W (hod.ext hX) (fun s hs => ⟨HOK.out ch hcm s hs, HZ.out ch hcm s hs⟩) (HLN.out ch hcm))
      have HDC := Lib.hid (HDM.out ch hcm)
      have him : j < maxLen := by unfold maxLen; omega
      obtain ⟨ci, os⟩ := ch
      dsimp only at c0 c1 HRI HDC
      obtain ⟨n, hn⟩ : ∃ n, os.length = n := ⟨_, rfl⟩
      rw [hn] at c1 HRI
      obtain ⟨T7, hT7⟩ : ∃ T7, wr.heap.size = T7 := ⟨_, rfl⟩
      obtain ⟨W1, hW1⟩ : ∃ W1, wr.alloc (.cells #[.int .i64 ci, .slice oo n oc] 74) = W1 := ⟨_, rfl⟩
      have X2 : Ext wr W1 := by rw [← hW1]; exact (Ext.refl wr).alloc _
      have y0 : W1.cell? ⟨T7, 0, none⟩ = some (.int .i64 ci) := by rw [← hW1, ← hT7]; simp [go_sem]
      have y1 : W1.cell? ⟨T7, 1, none⟩ = some (.slice oo n oc) := by rw [← hW1, ← hT7]; simp [go_sem]
      have HX2 := Lib.hid X2
      have HXR := Lib.hid X
      clear d1 d2 d3 hod hcm hn X2 X hlt
      go_wp2_with fail
      clear c0 c1 hW1 hT7
      have XD := Lib.hid (Ext.refl W1)
      go_region_law (first
        | (go_simp; go_at_call 91; refine (HRI.out _ (HX2.out.trans (by repeat' (first | with_reducible exact Ext.refl _ | with_reducible apply Ext.alloc | with_reducible apply Ext.drew | with_reducible apply Ext.drewN)))).mono ?_; rintro e w2 ⟨u2, rfl, hu2, _, X5⟩; obtain ⟨qo, qc, rfl, _, _⟩ := hu2.opn; rw [List.length_map] at hu2; have HU2 := Lib.hid hu2; have XD := Lib.hid (XD.out.trans (Ext.trans (by repeat' (first | with_reducible exact Ext.refl _ | with_reducible apply Ext.alloc | with_reducible apply Ext.drew | with_reducible apply Ext.drewN)) X5)); have y0 := XD.out.cell y0; have HM2 := Lib.hid (HM.out.ext (HX2.out.trans XD.out)); obtain ⟨W3, hput, hm3, hg3⟩ := HM2.out.set (keyE_int Tryz.underlying3) Tryz.underlying122 him (i := ci) HDC.out (.slice qo os.length qc); have HM3 := Lib.hid hm3; have HG3 := Lib.hid hg3; clear hm3 hg3 hu2 X5))
      all_goals
        have HKP := Lib.hid ((Keeps.of (HX2.out.trans XD.out)).trans (HM2.out.keeps HG3.out))
        have HXE := Lib.hid ((HXR.out.trans (HX2.out.trans XD.out)).grown HG3.out (Nat.le_refl _))
        have HFN : Hid (∀ (i : Nat) (ch : Ch), i < j + 1 → S[i]? = some ch → ∃ x, (if ch.1 = ci then some (.slice qo os.length qc) else f ch.1) = some x ∧ QsV W3 x (ch.2.map ratOf)) := fun i ch hi h => by
          by_cases hij : i = j
          · subst hij
            rw [HD1.out] at h
            obtain rfl := Option.some.inj h
            exact ⟨_, if_pos rfl, HU2.out.keeps (HM2.out.keeps HG3.out)⟩
          · have hne : ¬ ch.1 = ci := fun e => HNE.out i j ch (ci, os) h HD1.out (by omega) e
            rw [if_neg hne]
            obtain ⟨x, h1, h2⟩ := HF.out i ch (by omega) h
            exact ⟨x, h1, h2.keeps HKP.out⟩
        clear hput y0
        go_wp2_with fail
        go_roundw
        case rel => exact ⟨j + 1, _, by omega, by go_num, HM3.out, HFN.out, HXE.out⟩
        case measure => simp [intOf]; omega
    · have hje : j = S.length := by omega
      subst hje
      have hge : ¬ (S.length : Int) < (S.length : Int) := by omega
      have HFA : Hid (∀ (i : Nat) (ch : Ch), S[i]? = some ch → ∃ x, f ch.1 = some x ∧ QsV wr x (ch.2.map ratOf)) := fun i ch h => HF.out i ch (List.getElem?_eq_some_iff.1 h).1 h
      clear hlt
      go_wp2_with fail
      go_ret
      exact ⟨_, rfl, _, _, f, rfl, HM.out, HFA.out, X⟩
end Go.Proofs.YtkfheeffbombhaaGreatDoor/- walk of recall.Plan -/
namespace Go.Proofs.YtkfheeffbombhaaGreatDoor
open Go.RowKit
set_option linter.unusedVariables false

/-! ### append keeps the cells of its row -/
theorem run_app_how {P : Program} {w : World} {t ty e : TypeId} {z : Value} {sz bytes : Nat} (ei : EI P t e z sz bytes) {B : Nat} {v : Value} {n : Nat} {xs : List Value}
    (hown : w.ownsRow B e sz v n xs) {u : Value} {m : Nat} {news : List Value} (hsrc : Src w u m sz news) (hlen : n + m ≤ 17592186044416) (hby : (n + m) * bytes ≤ 140737488355328) {v' : Value} {w' : World}
    (hr : (Builtin.append_ #[t, t] ty #[v, u]).run P w = .ok v' w') : v'.ownBlock = v.ownBlock ∨ Ext w w' := by
  obtain ⟨i, hi, hz, hs, hb⟩ := ei.info
  obtain ⟨ao, c, rfl, hl, h1, hc⟩ := hsrc
  by_cases hm : m = 0
  · subst hm
    rw [run_append_none t ty e i ei.und hi B sz v n c xs hown ao] at hr
    simp only [Result.ok.injEq] at hr
    exact .inl (by rw [hr.1])
  · obtain ⟨b, off, rfl, hcell⟩ := hc hm
    have hnews : ∀ j x, news[j]? = some x → w.cell? ((⟨b, off, none⟩ : Addr).add j) = some x := by
      intro j x hx; rw [Addr.add_lit]; exact hcell j x hx
    have h63 : n + m ≤ maxLen := by unfold maxLen; omega
    subst hs; subst hb
    rcases hown.2 with ⟨rfl, rfl⟩ | ⟨g, cap, cur, rfl, hbg, hg, hnc, hcm, hcs, htake⟩
    · have hr2 := run_append_nil (P := P) w t ty e i z ei.und hi hz ⟨b, off, none⟩ m c news hl hnews (by omega) (by omega) (by simp only [Nat.zero_add] at hby; omega)
      rw [hr2] at hr
      simp only [Result.ok.injEq] at hr
      refine .inr ?_
      rw [← hr.2]
      first | exact ((Ext.refl _).drew).alloc _ | exact (Ext.refl _).alloc _
    · by_cases hroom : n + m ≤ cap
      · have hfit : n * i.size + news.length ≤ cur.size := by rw [hl, hcs, ← Nat.add_mul]; exact Nat.mul_le_mul_right _ hroom
        have hr2 := run_append_room (P := P) w t ty e i ei.und hi g n cap cur hg ⟨b, off, none⟩ m c news hl hnews h1 hroom hfit
        rw [hr2] at hr
        simp only [Result.ok.injEq] at hr
        exact .inl (by rw [← hr.1]; rfl)
      · have holds : ∀ j u, xs[j]? = some u → w.cell? ((⟨g, 0, none⟩ : Addr).add j) = some u := hown.cells (g := g) rfl
        have hr2 := run_append_grow (P := P) w t ty e i z ei.und hi hz ⟨g, 0, none⟩ n cap xs hown.1 holds ⟨b, off, none⟩ m c news hl hnews (by omega) (by omega) (growslice_fits (by omega) hby)
        rw [hr2] at hr
        simp only [Result.ok.injEq] at hr
        refine .inr ?_
        rw [← hr.2]
        first | exact ((Ext.refl _).drew).alloc _ | exact (Ext.refl _).alloc _
theorem own_keep {w w' : World} {B : Nat} {e : TypeId} {sz : Nat} {v v' : Value} {n n' : Nat} {xs news : List Value} (h : w.ownsRow B e sz v n xs) (h2 : w'.ownsRow B e sz v' n' (xs ++ news)) (hh : v'.ownBlock = v.ownBlock ∨ Ext w w') {g j : Nat} {x : Value} (hg : v.ownBlock = some g) (hj : j < xs.length) (hc : w.cell? ⟨g, j, none⟩ = some x) : w'.cell? ⟨g, j, none⟩ = some x := by
  rcases hh with hh | hh
  · have h3 := h.cells (g := g) hg j (xs[j]) (List.getElem?_eq_getElem hj)
    rw [Addr.add_lit, Nat.zero_add, hc] at h3
    have h4 := h2.cells (g := g) (by rw [hh]; exact hg) j x (by rw [List.getElem?_append_left hj, List.getElem?_eq_getElem hj, ← h3])
    rwa [Addr.add_lit, Nat.zero_add] at h4
  · exact hh.cell hc
/-- append of a number, in a region that draws -/
theorem step_appQk {ops : Array Oper} {o : Oper} {a : Act} {W : World} {K : Act → World → Prop} {Q : Exit → Act → World → Prop} {E : Prop} {s : Bool} {xo yo : Option Addr} {xl xc yl yc : Nat} (hg : o.guard = none) {sl x : Operand}
    (ho : o.op = .call { callee := .builtin .append, args := #[sl, x], argTypes := #[90, 90] }) {B : Nat} {v : Value} {qs : List Rat} {q : Rat} (hO : QsO W B v qs) (hq : QV W (.agg #[.bool s, .slice xo xl xc, .slice yo yl yc]) q)
    (hs : a.eval sl = v) {k : Nat} (hx : a.eval x = .slice (some ⟨k, 0, none⟩) 1 1) (hk : k = W.heap.size) (hlen : qs.length ≤ 1000000) (hB : B ≤ W.heap.size)
    (h : ∀ v' w', QsO w' B v' (qs ++ [q]) → Grew W v w' v' → Clean W v → (∀ (g j : Nat) (x : Value), v.ownBlock = some g → j < qs.length * 3 → W.cell? ⟨g, j, none⟩ = some x → w'.cell? ⟨g, j, none⟩ = some x) → K (a.put o.dst v') w') : if Region.wanted o (yielded ops a.tmps) = true then Oper.wp Tryz.prog o a (W.alloc (.cells #[.bool s, .slice xo xl xc, .slice yo yl yc] 99)) K Q else E := by
  have hw : Region.wanted o (yielded ops a.tmps) = true := by simp [Region.wanted, hg]
  rw [if_pos hw]
  obtain ⟨ts, h1, h2, h3, h4⟩ := hO
  subst hk
  have hsrc : Src (W.alloc (.cells #[.bool s, .slice xo xl xc, .slice yo yl yc] 99)) (.slice (some ⟨W.heap.size, 0, none⟩) 1 1) 1 3 [.bool s, .slice xo xl xc, .slice yo yl yc] := by
    refine ⟨_, _, rfl, rfl, ?_, fun _ => ⟨_, _, rfl, fun j y hy => ?_⟩⟩
    · intro y hy
      simp at hy
      rcases hy with rfl | rfl | rfl <;> rfl
    · match j, hy with
      | 0, hy => simp at hy; subst hy; simp [World.cell?_alloc_new]
      | 1, hy => simp at hy; subst hy; simp [World.cell?_alloc_new]
      | 2, hy => simp at hy; subst hy; simp [World.cell?_alloc_new]
  have ho2 := own_ext h1 ((Ext.refl W).alloc (.cells #[.bool s, .slice xo xl xc, .slice yo yl yc] 99))
  obtain ⟨v', w', hr, g2, g3⟩ := run_app (P := Tryz.prog) (ty := o.type) ei_q ho2 hsrc (by omega) (by omega) (by simp; omega)
  have hgrew : Grew W v w' v' := by
    refine ⟨⟨g3.by'.os, g3.by'.tape, g3.by'.output, Nat.le_trans (by simp) g3.by'.size, fun k hk hn => ?_⟩, ?_⟩
    · rw [g3.by'.block k (by simp; omega) hn]; exact Below.heap_alloc W _ k hk
    · rcases g3.blk with e | e
      · exact .inl e
      · exact .inr fun k hk => by have := e k hk; simp at this; omega
  obtain ⟨i, i1, i2, i3, i4⟩ := ei_q.info
  have hcl2 : Clean w' v' := append_clean (B := B) ei_q.und i1 i2 (by rw [i3]; exact ei_q.zc) (by rw [i3]; omega) (by rw [i3]; exact ho2) (h2.alloc _) zc_q (m := 1) (by rw [i3]; rfl) (by omega) (a := ⟨W.heap.size, 0, none⟩) (c := 1) (news := [.bool s, .slice xo xl xc, .slice yo yl yc]) (by
    intro j u hu
    match j, hu with
    | 0, hy => simp at hy; subst hy; simp [Addr.add, World.cell?_alloc_new]
    | 1, hy => simp at hy; subst hy; simp [Addr.add, World.cell?_alloc_new]
    | 2, hy => simp at hy; subst hy; simp [Addr.add, World.cell?_alloc_new]) (by intro y hy; simp at hy; rcases hy with rfl | rfl | rfl <;> rfl) (by intro y hy d; simp at hy; rcases hy with rfl | rfl | rfl <;> simp [encD]) (by unfold maxLen; omega) (by rw [i4]; omega) hr
  unfold Oper.wp execOp
  simp only [ho, resolve, invoke, builtin, Sem.run_bind, Sem.run_pure, Result.andThen_ok, List.map_toArray, List.map_cons, List.map_nil, hs, hx, hr]
  refine h v' w' ⟨ts ++ [(.bool s, .slice xo xl xc, .slice yo yl yc)], ?_, hcl2, by simp [h3], fun i t q2 hi hq2 => ?_⟩ hgrew h2 (fun g j x e1 e2 e3 => own_keep ho2 g2 (run_app_how ei_q ho2 hsrc (by omega) (by omega) hr) e1 (by rw [flatT_len, h3]; exact e2) (((Ext.refl W).alloc _).cell e3))
  · rw [flatT_app, List.length_append]; exact g2
  · rcases Nat.lt_or_ge i qs.length with hlt | hge
    · rw [List.getElem?_append_left (by omega)] at hi hq2
      exact h2.keptQ hgrew.by' (h4 i t q2 hi hq2)
    · rw [List.getElem?_append_right (by omega)] at hi hq2
      have e1 : i - ts.length = 0 := by have := (List.getElem?_eq_some_iff.1 hi).1; simp at this; omega
      have e2 : i - qs.length = 0 := by omega
      rw [e1] at hi
      rw [e2] at hq2
      simp only [List.getElem?_cons_zero, Option.some.injEq] at hi hq2
      subst hi
      subst hq2
      exact h2.keptQ hgrew.by' hq

/-! ### plain: what each sequence is worth -/
def planP (S : List Ch) (ws : List (Int × Int)) : Rat := ws.foldl (fun a s => pickP S s.1 s.2.toNat a) 1
theorem planP_snoc (S : List Ch) (ws : List (Int × Int)) (q : Int) (c : Nat) : planP S (ws ++ [(q, (c : Int))]) = pickP S q c (planP S ws) := by
  unfold planP
  rw [List.foldl_append]
  rfl
def planL (T : List Nd) (p : Int) (S : List Ch) : List Rat := (waysL T p T.length).map (planP S)
theorem planP_RB {T : List Nd} {p : Int} {S : List Ch} (hS : FitS T p S) : ∀ (ws : List (Int × Int)) (m : Nat) (a : Rat), RB m a → RB (m + 2000 * ws.length) (ws.foldl (fun a s => pickP S s.1 s.2.toNat a) a)
  | [], m, a, ha => ha
  | s :: t, m, a, ha => by
    rw [List.foldl_cons, List.length_cons]
    exact (planP_RB hS t _ _ (pick_RB hS.nd hS.ok ha)).mono (by omega)
theorem pick_one {c : Nat} : ∀ {S : List Ch} {e : Ch} (a : Rat), (S.map (·.1)).Nodup → e ∈ S → pickP S e.1 c a = a * ((e.2[c]?).map ratOf).getD 1
  | [], e, a, _, h => by cases h
  | s :: t, e, a, hn, h => by
    rw [List.map_cons, List.nodup_cons] at hn
    show pickP t e.1 c (if s.1 = e.1 then a * ((s.2[c]?).map ratOf).getD 1 else a) = _
    rcases List.mem_cons.1 h with rfl | h
    · rw [if_pos rfl]
      exact pick_none fun x hx h2 => hn.1 (by rw [← h2]; exact List.mem_map_of_mem hx)
    · rw [if_neg (fun h2 => hn.1 (by rw [h2]; exact List.mem_map_of_mem h))]
      exact pick_one a hn.2 h
/-- where a sequence comes from -/
theorem seq_at {T : List Nd} (hT : Valid T) {p : Int} (hr : remB T p = true) : ∀ i, i ≤ T.length → ∀ (k : Nat) (s : Int × Int × Int), (seqsL T p i)[k]? = some s → (k = 0 ∧ s = (-1, -1, -1)) ∨
    ∃ (q : Int) (c b : Nat) (o : List (Int × Int)) (x : Nd), s = (q, (c : Int), (b : Int)) ∧ b < k ∧ (waysL T p i)[b]? = some o ∧ (waysL T p i)[k]? = some (o ++ [(q, (c : Int))]) ∧ x ∈ T ∧ isMove x p q = true ∧ c < x.next.length
  | 0, _, k, s, h => by
    rw [seqsL] at h
    match k, h with
    | 0, h => cases h; exact .inl ⟨rfl, rfl⟩
  | i + 1, hi, k, s, h => by
    obtain ⟨x, hx⟩ : ∃ x, T[i]? = some x := ⟨T[i], List.getElem?_eq_getElem (by omega)⟩
    rw [seqsL_succ hx] at h
    have hw := waysL_succ (p := p) hx
    have hlen := seqsL_len T p i
    by_cases hf : freshB T p i x = true
    · rw [if_pos hf] at h hw
      by_cases hk : k < (seqsL T p i).length
      · rw [List.getElem?_append_left hk] at h
        rcases seq_at hT hr i (by omega) k s h with h1 | ⟨q, c, b, o, y, h1, h2, h3, h4, h5⟩
        · exact .inl h1
        · refine .inr ⟨q, c, b, o, y, h1, h2, ?_, ?_, h5⟩
          · rw [hw, List.getElem?_append_left (List.getElem?_eq_some_iff.1 h3).1]; exact h3
          · rw [hw, List.getElem?_append_left (List.getElem?_eq_some_iff.1 h4).1]; exact h4
      · rw [List.getElem?_append_right (by omega), List.getElem?_map] at h
        obtain ⟨c, hc, rfl⟩ := Option.map_eq_some_iff.1 h
        have hc2 := (List.getElem?_eq_some_iff.1 hc).1
        rw [List.length_range] at hc2
        rw [List.getElem?_range hc2] at hc
        have hce : k - (seqsL T p i).length = c := Option.some.inj hc
        have ho := own_in hT hr (i := i) (by omega)
        have hidx := idxL_get ho
        have hil := (List.getElem?_eq_some_iff.1 hidx).1
        obtain ⟨f1, f2, _⟩ := freshB_iff.1 hf
        refine .inr ⟨x.info, c, idxL (waysL T p i) (own T p i), own T p i, x, rfl, by omega, ?_, ?_, List.mem_of_getElem? hx, isMove_iff.2 ⟨f1, f2, rfl⟩, by omega⟩
        · rw [hw, List.getElem?_append_left hil]; exact hidx
        · rw [hw, List.getElem?_append_right (by omega), List.getElem?_map, show k - (waysL T p i).length = c by omega, List.getElem?_range (by omega)]; rfl
    · rw [if_neg hf] at h hw
      rw [hw]
      exact seq_at hT hr i (by omega) k s h
/-- the entry of an information set -/
theorem str_entry {T : List Nd} (hT : Valid T) {p q : Int} {S : List Ch} (hS : strategyE T p S = 0) {x : Nd} (hx : x ∈ T) (hm : isMove x p q = true) : ∃ (j : Nat) (e : Ch), S[j]? = some e ∧ e.1 = q ∧ e.2.length = x.next.length := by
  obtain ⟨h1, h2⟩ := strE_zero hS
  obtain ⟨m1, m2, m3⟩ := isMove_iff.1 hm
  obtain ⟨i, hi⟩ := List.mem_iff_getElem?.1 hx
  obtain ⟨w1, _, w3, w4, _⟩ := hT.wide1 hi m1
  have hw := widthT_of hT hx hm
  have hq : q ∈ infosT T p := by
    unfold infosT
    rw [List.mem_filter]
    refine ⟨List.mem_map.2 ⟨q.toNat, List.mem_range.2 (by omega), by show ((q.toNat : Nat) : Int) = q; omega⟩, ?_⟩
    rw [hw]
    exact decide_eq_true w1
  rw [← h1] at hq
  obtain ⟨e, he, rfl⟩ := List.mem_map.1 hq
  obtain ⟨j, hj⟩ := List.mem_iff_getElem?.1 he
  exact ⟨j, e, hj, rfl, by rw [(h2 e he).1, hw]⟩

/-- what Plan leaves -/
def PlanPost (T : List Nd) (p : Int) (S : List Ch) (u : Value) (w w' : World) : Prop := Ext w w' ∧ ((recallE T p ≠ 0 ∧ u = .tuple #[.slice none 0 0, .int .i64 (recallE T p)]) ∨
  (recallE T p = 0 ∧ strategyE T p S ≠ 0 ∧ u = .tuple #[.slice none 0 0, .int .i64 (strategyE T p S)]) ∨
  (recallE T p = 0 ∧ strategyE T p S = 0 ∧ ((outsG (planL T p S) = none ∧ u = .tuple #[.slice none 0 0, .int .i64 2]) ∨ ∃ os a, outsG (planL T p S) = some os ∧ u = .tuple #[a, .int .i64 0] ∧ Strs w' a os)))

set_option maxHeartbeats 12800000 in
set_option maxRecDepth 100000 in
theorem plan_any (v u : Value) (T : List Nd) (p : Int) (S : List Ch) (w : World) (htab : TabPow w) (hv : TreeIn w v T) (hz : TreeSz T) (hu : StrIn w u S) (hzs : StrSz S) :
    Calls Tryz.prog 36 #[v, .int .i64 p, u] w fun e w' => ∃ r, e = .returned r ∧ PlanPost T p S r w w' := by
  obtain ⟨wo, rfl⟩ : ∃ wo : World, wo = w := ⟨_, rfl⟩
  have HCK := Lib.hid (rcheck_any v T p wo htab hv hz)
  obtain ⟨E, hE⟩ : ∃ E, recallE T p = E := ⟨_, rfl⟩
  have HE := Lib.hid hE
  rw [hE] at HCK
  have HSTR := Lib.hid (fun (hT : Valid T) W (hX : Ext wo W) => strategy_any v u T p S W (tabPow_ext htab hX) (hv.ext hX) hT (hu.ext hX) hzs)
  obtain ⟨E2, hE2⟩ : ∃ E2, strategyE T p S = E2 := ⟨_, rfl⟩
  have HE2 := Lib.hid hE2
  rw [hE2] at HSTR
  by_cases h0 : E = 0
  · subst h0
    obtain ⟨hT, hr, hpp, _⟩ := recall_ok hE
    have HSTR := Lib.hid (HSTR.out hT)
    by_cases h2 : E2 = 0
    · subst h2
      have hfit := fit_of hT hE2
      obtain ⟨hinf, hent⟩ := strE_zero hE2
      have hSl : S.length ≤ 10 := by
        have h1 := congrArg List.length hinf
        rw [List.length_map] at h1
        have h3 := List.length_filter_le (fun q => decide (0 < widthT T p q)) ((List.range 10).map Int.ofNat)
        unfold infosT at h1
        simp at h3 h1
        omega
      have hSq : ∀ c ∈ S, 0 ≤ c.1 ∧ c.1 ≤ 9 ∧ c.2.length ≤ 6 := fun c hc => by
        have h1 : c.1 ∈ infosT T p := by rw [← hinf]; exact List.mem_map_of_mem hc
        unfold infosT at h1
        rw [List.mem_filter] at h1
        obtain ⟨n, hn, hn2⟩ := List.mem_map.1 h1.1
        have hn3 := List.mem_range.1 hn
        have hn4 : ((n : Nat) : Int) = c.1 := hn2
        refine ⟨by omega, by omega, ?_⟩
        rw [(hent c hc).1]
        unfold widthT
        cases hf : T.find? (fun x => isMove x p c.1) with
        | none => exact Nat.zero_le _
        | some y =>
          obtain ⟨i, hi⟩ := List.mem_iff_getElem?.1 (List.mem_of_find?_eq_some hf)
          exact hT.next6 hi
      have HOD := Lib.hid (fun W (hX : Ext wo W) => oddsMap_any u S W (hu.ext hX) hzs hfit.nd hfit.ok (fun c hc => wf_small (by have := hSq c hc; omega) (by have := hSq c hc; omega)) (fun c hc => by have := (hSq c hc).2.2; omega) (by omega))
      have HOF := Lib.hid (fun W (hX : Ext wo W) => of_any v T p W (hv.ext hX) hT hr)
      have HSA := Lib.hid (fun (k : Nat) s (h : (seqsL T p T.length)[k]? = some s) => seq_at hT hr T.length (Nat.le_refl _) k s h)
      have HEN := Lib.hid (fun (q : Int) (x : Nd) (hx : x ∈ T) (hm : isMove x p q = true) => str_entry hT hE2 hx hm)
      have HP1 := Lib.hid (fun (e : Ch) (he : e ∈ S) (c : Nat) (a : Rat) => pick_one (c := c) a hfit.nd he)
      have HRB := Lib.hid (fun (ws : List (Int × Int)) (h : ws ∈ waysL T p T.length) => (by
        have h1 := planP_RB hfit ws 1 1 RB_1
        have h3 := WaysRow hT p T.length (Nat.le_refl _) ws h
        exact h1.mono (by omega) : RB 242001 (planP S ws)))
      have HORB := Lib.hid (fun (e : Ch) (he : e ∈ S) (c : Nat) => odd_RB (hfit.ok e he) c)
      have HDQ := Lib.hid (fun (e : Ch) (he : e ∈ S) => (wf_small (by have := hSq e he; omega) (by have := hSq e he; omega) : (Lit.int .i64 e.1).wf = true))
      have HWZ := Lib.hid (ways_size hT p T.length (Nat.le_refl _))
      have HTN := hT.len
      have HPL : Hid (planL T p S = (waysL T p T.length).map (planP S)) := rfl
      have HOU := Lib.hid (fun (r : Value) W (hX : Ext wo W) (hr2 : QsV W r (planL T p S)) => outAll_any r (planL T p S) W (tabPow_ext htab hX) hr2 (by unfold planL; rw [List.length_map]; have := HWZ.out; omega))
      have HSL := Lib.hid (seqsL_len T p T.length)
      obtain ⟨ao, c, rfl, _, _⟩ := hv.open
      obtain ⟨so, sc, rfl, _, _⟩ := hu.open
      clear hE hE2 hT hr hpp hfit hinf hent hSl hSq hv hu hz hzs htab
      go_enter Tryz.func36, Tryz.ntmps36
      go_wp2_with fail
      refine HCK.out.mono ?_
      rintro e w1 ⟨rfl, X1⟩
      go_wp2_with fail
      refine (HSTR.out _ X1).mono ?_
      rintro e w2 ⟨rfl, X2⟩
      have HX2 := Lib.hid (X1.trans X2)
      clear X1 X2 HCK HSTR
      go_wp2_with fail
      refine (HOD.out _ HX2.out).mono ?_
      rintro e w3 ⟨_, rfl, mb, mn, f, rfl, hM, hMF, X3⟩
      have HX3 := Lib.hid (HX2.out.trans X3)
      have HM := Lib.hid hM
      have HMF := Lib.hid hMF
      clear hM hMF X3 HOD
      go_wp2_with fail
      refine (HOF.out _ HX3.out).mono ?_
      rintro e w4 ⟨_, rfl, G, sv, av, rfl, g0, g1, hsq, _, X4⟩
      obtain ⟨qo, qc, rfl, hsqo⟩ := hsq
      have HSQ := Lib.hid hsqo
      have HX4 := Lib.hid (HX3.out.trans X4)
      have HM4 := Lib.hid (HM.out.ext X4)
      have HMF4 : Hid (∀ (j : Nat) (ch : Ch), S[j]? = some ch → ∃ x, f ch.1 = some x ∧ QsV w4 x (ch.2.map ratOf)) := fun j ch h => by
        obtain ⟨x, h1, h2⟩ := HMF.out j ch h
        exact ⟨x, h1, h2.ext X4⟩
      obtain ⟨n, hn⟩ : ∃ n, (seqsL T p T.length).length = n := ⟨_, rfl⟩
      rw [hn] at g0 HSL
      have HNN := Lib.hid hn
      have hnb : n ≤ 721 := by have := HWZ.out; have := HSL.out; omega
      clear hsqo X4 hn HM HMF HOF
      go_wp2_with fail
      clear g0 g1
      go_loopw [11, 36] (fun ov kv wr => ∃ (k : Nat), k ≤ n ∧ kv = .int .i64 k ∧ Hid (QsO wr w4.heap.size ov ((planL T p S).take k)) ∧ Ext w4 wr) (fun _ kv _ => n - (intOf kv).toNat)
      case atStart => exact ⟨0, Nat.zero_le _, rfl, QsO.nil _ _, Ext.refl _⟩
      case round =>
        obtain ⟨k, hk, rfl, HO, X⟩ := hrel
        by_cases hlt : k < n
        · obtain ⟨s, d1, _, _⟩ := get_lt (xs := seqsL T p T.length) (k := k) (by rw [HNN.out]; exact hlt)
          obtain ⟨sb, soff, rfl, c0, c1, c2⟩ := (HSQ.out.ext X).at d1
          have hkk : (k : Int) < (n : Int) := by omega
          have hpk : ∀ ws, (waysL T p T.length)[k]? = some ws → (planL T p S).take (k + 1) = (planL T p S).take k ++ [planP S ws] := fun ws h => by
            have h1 : (planL T p S)[k]? = some (planP S ws) := by rw [HPL.out, List.getElem?_map, h]; rfl
            obtain ⟨h3, h4⟩ := List.getElem?_eq_some_iff.1 h1
            rw [List.take_succ_eq_append_getElem h3, h4]
          have HTL : Hid (((planL T p S).take k).length ≤ 1000000) := by show _ ≤ _; rw [List.length_take]; omega
          have hsz := X.size
          have HSW : Hid (w4.heap.size ≤ wr.heap.size) := X.size
          rcases HSA.out k s d1.out with ⟨rfl, rfl⟩ | ⟨q, cc, bb, o, x, rfl, hbk, hob, hwk, hxT, hxm, hcn⟩
          · have HTJ := Lib.hid (hpk [] (waysL_pos T p T.length))
            rw [Nat.zero_mul, Nat.add_zero] at c0 c1 c2
            have HQ1 := Lib.hid (fun W => qOf_any 1 W (by omega) (by omega))
            obtain ⟨T8, hT8⟩ : ∃ T8, wr.heap.size = T8 := ⟨_, rfl⟩
            obtain ⟨W2, hW2⟩ : ∃ W2, wr.alloc (.cells #[.int .i64 (-1), .int .i64 (-1), .int .i64 (-1)] 62) = W2 := ⟨_, rfl⟩
            have X2 : Ext wr W2 := by rw [← hW2]; exact (Ext.refl wr).alloc _
            have z2 : W2.cell? ⟨T8, 2, none⟩ = some (.int .i64 (-1)) := by rw [← hW2, ← hT8]; simp [go_sem]
            have HX5 := Lib.hid (X.trans X2)
            have HO5 := Lib.hid (HO.out.ext X2)
            obtain ⟨PT, hPT⟩ : ∃ PT, (planL T p S).take 0 = PT := ⟨_, rfl⟩
            rw [hPT] at HO5 HTL HTJ
            clear d1 hpk X X2 hPT HO hlt hsz
            go_wp2_with fail
            refine (HQ1.out _).mono ?_
            rintro e w5 ⟨r5, rfl, h5, X5⟩
            obtain ⟨s5, ao5, l5, c5, bo5, m5, d5, rfl, _, _, _⟩ := h5.opn
            have HQ5 := Lib.hid h5
            have HO6 := Lib.hid (HO5.out.ext X5)
            have HX6 := Lib.hid (HX5.out.trans X5)
            have hsz6 := HX6.out.size
            clear h5 X5
            go_wp2_with (at_builtin; refine wp_appQ (sl := .tmp 43) (x := .tmp 45) rfl rfl HO6.out HQ5.out rfl rfl rfl HTL.out hsz6 ?_; intro v' w' hown hgrew hclean)
            have HE7 := Lib.hid (QsO.grew HO6.out hgrew HX6.out (Nat.le_refl _))
            have HO7 := Lib.hid hown
            clear hown hgrew hclean
            go_wp2_with fail
            go_roundw
            case rel => exact ⟨0 + 1, by omega, by go_num, by rw [HTJ.out]; exact HO7.out, HE7.out⟩
            case measure => simp [intOf]; omega
          · have HTJ := Lib.hid (hpk _ hwk)
            obtain ⟨j, e, hj, he1, he2⟩ := HEN.out q x hxT hxm
            have hem := List.mem_of_getElem? hj
            obtain ⟨xv, hf, hxq⟩ := HMF4.out j e hj
            have hpw : planP S (o ++ [(q, (cc : Int))]) = planP S o * ((e.2[cc]?).map ratOf).getD 1 := by rw [planP_snoc, ← he1]; exact HP1.out e hem cc _
            rw [hpw] at HTJ
            have hob1 : ((planL T p S).take k)[bb]? = some (planP S o) := by rw [List.getElem?_take, if_pos hbk, HPL.out, List.getElem?_map, hob]; rfl
            have hRO := HRB.out o (List.mem_of_getElem? hob)
            have hRE := HORB.out e hem cc
            have hDQ := HDQ.out e hem
            rw [he1] at hf hDQ
            obtain ⟨mo, mc, rfl, _, hmq⟩ := hxq.opn
            have hcc : cc < e.2.length := by omega
            obtain ⟨t, ht, _, _⟩ := get_lt hcc
            have hmt : (e.2.map ratOf)[cc]? = some (ratOf t) := by rw [List.getElem?_map, ht.out]; rfl
            rw [ht.out] at HTJ hRE
            obtain ⟨yb, s4, a4, l4, cp4, b4, m4, dp4, rfl, y0, y1, y2, hq4⟩ := hmq cc _ hmt
            have HY4 := Lib.hid (show _ ∧ _ ∧ _ from ⟨y0, y1, y2⟩)
            have y0 := X.cell y0
            have y1 := X.cell y1
            have y2 := X.cell y2
            obtain ⟨oo, oc, hoe, hol, hoq⟩ := (HO.out.toV (by have := HTL.out; omega)).opn
            obtain ⟨xb, s3, a3, l3, cp3, b3, m3, dp3, hxo, x0, x1, x2, hq3⟩ := hoq bb _ hob1
            subst hxo
            have HXOB : Hid (u11.ownBlock = some xb) := by show _ = _; rw [hoe]; rfl
            have hT8X : wr.heap.size ≠ xb := by have := World.block_lt_of_cell? wr _ x0; dsimp only at this; omega
            have HTJ : Hid ((planL T p S).take (k + 1) = (planL T p S).take k ++ [planP S o * ratOf t]) := HTJ.out
            have hRE : RB 2000 (ratOf t) := hRE
            have HML := Lib.hid (fun (ua ub : Value) W h1 h2 => qMul_any ua ub (planP S o) (ratOf t) W h1 h2 (RB_QB hRO (by omega)) (RB_QB hRE (by omega)))
            have hbl : (bb : Int) < (((planL T p S).take k).length : Int) := by have := (List.getElem?_eq_some_iff.1 hob1).1; omega
            have hcl : (cc : Int) < ((e.2.map ratOf).length : Int) := by rw [List.length_map]; omega
            obtain ⟨T8, hT8⟩ : ∃ T8, wr.heap.size = T8 := ⟨_, rfl⟩
            obtain ⟨W2, hW2⟩ : ∃ W2, wr.alloc (.cells #[.int .i64 q, .int .i64 (cc : Int), .int .i64 (bb : Int)] 62) = W2 := ⟨_, rfl⟩
            have X2 : Ext wr W2 := by rw [← hW2]; exact (Ext.refl wr).alloc _
            have z0 : W2.cell? ⟨T8, 0, none⟩ = some (.int .i64 q) := by rw [← hW2, ← hT8]; simp [go_sem]
            have z1 : W2.cell? ⟨T8, 1, none⟩ = some (.int .i64 (cc : Int)) := by rw [← hW2, ← hT8]; simp [go_sem]
            have z2 : W2.cell? ⟨T8, 2, none⟩ = some (.int .i64 (bb : Int)) := by rw [← hW2, ← hT8]; simp [go_sem]
            have HX5 := Lib.hid (X.trans X2)
            have HO5 := Lib.hid (HO.out.ext X2)
            have x0 := X2.cell x0
            have x1 := X2.cell x1
            have x2 := X2.cell x2
            have y0 := X2.cell y0
            have y1 := X2.cell y1
            have y2 := X2.cell y2
            have HQ3 := Lib.hid (hq3.ext X2)
            have HQ4 := Lib.hid ((hq4.ext X).ext X2)
            rw [hT8] at hT8X
            have HT8X : Hid (some T8 ≠ u11.ownBlock) := by show _ ≠ _; rw [HXOB.out]; exact fun e => hT8X (Option.some.inj e)
            have HLK4 := Lib.hid (fun W (hx : Ext w4 W) => (HM4.out.ext hx).look1 (keyE_int Tryz.underlying3) Tryz.underlying122 (z := .slice none 0 0) (by kernel_rfl) (i := q) hDQ hf)
            have HLK := Lib.hid (fun W (hx : Ext W2 W) => ((HM4.out.ext (X.trans X2)).ext hx).look1 (keyE_int Tryz.underlying3) Tryz.underlying122 (z := .slice none 0 0) (by kernel_rfl) (i := q) hDQ hf)
            have HNB : Hid (¬ (bb : Int) < 0) := by show ¬ _; omega
            have hnb0 := HNB.out
            obtain ⟨PT, hPT⟩ : ∃ PT, (planL T p S).take k = PT := ⟨_, rfl⟩
            obtain ⟨eq, heq⟩ : ∃ eq, e.2.map ratOf = eq := ⟨_, rfl⟩
            rw [hPT] at HO5 HTL HTJ hbl hoe
            rw [heq] at hcl HLK HLK4
            obtain ⟨PO, hPO⟩ : ∃ PO, planP S o = PO := ⟨_, rfl⟩
            obtain ⟨PR, hPR⟩ : ∃ PR, ratOf t = PR := ⟨_, rfl⟩
            rw [hPO, hPR] at HTJ HML
            rw [hPO] at HQ3
            rw [hPR] at HQ4
            obtain ⟨ln, hln⟩ : ∃ ln, PT.length = ln := ⟨_, rfl⟩
            rw [hln] at hbl hoe
            have HLN := Lib.hid hln
            have hbn : bb < ln := by omega
            obtain ⟨en, hen⟩ : ∃ en, eq.length = en := ⟨_, rfl⟩
            rw [hen] at hcl HLK HLK4
            rw [hoe] at HXOB HT8X HO5 ⊢
            clear hoe hT8X d1 hpk X X2 hPT HO hlt hsz hob hwk hxT hxm hcn hj he1 he2 hem hf hxq hpw hob1 hRO hRE hDQ hmq ht hmt hq4 hq3 hoq heq hPO hPR hol hln hen hbk hcc
            go_wp2_with fail
            clear c0 c1 c2 hW2 hT8
            go_region_held3 (fun W9 => W9.cell? ⟨T8, 0, none⟩ = some (.int .i64 q) ∧ W9.cell? ⟨T8, 1, none⟩ = some (.int .i64 (cc : Int)) ∧ W9.cell? ⟨T8, 2, none⟩ = some (.int .i64 (bb : Int)) ∧ W9.cell? ⟨xb, bb * 3, none⟩ = some (.bool s3) ∧ W9.cell? ⟨xb, bb * 3 + 1, none⟩ = some (.slice a3 l3 cp3) ∧ W9.cell? ⟨xb, bb * 3 + 2, none⟩ = some (.slice b3 m3 dp3) ∧ W9.cell? ⟨yb, cc * 3, none⟩ = some (.bool s4) ∧ W9.cell? ⟨yb, cc * 3 + 1, none⟩ = some (.slice a4 l4 cp4) ∧ W9.cell? ⟨yb, cc * 3 + 2, none⟩ = some (.slice b4 m4 dp4) ∧ (Instr.lookup 122 (.map (some mb)) (.int .i64 q) false).run Tryz.prog W9 = .ok (.slice (some ⟨yb, 0, none⟩) en mc) W9)
              (first | exact ⟨zz0, zz1, zz2, xx0, xx1, xx2, yy0, yy1, yy2, hlk9⟩ | exact ⟨Ext.cell (Ext.trans XD (by repeat' (first | with_reducible exact Ext.refl _ | with_reducible apply Ext.alloc | with_reducible apply Ext.drew | with_reducible apply Ext.drewN))) z0, Ext.cell (Ext.trans XD (by repeat' (first | with_reducible exact Ext.refl _ | with_reducible apply Ext.alloc | with_reducible apply Ext.drew | with_reducible apply Ext.drewN))) z1, Ext.cell (Ext.trans XD (by repeat' (first | with_reducible exact Ext.refl _ | with_reducible apply Ext.alloc | with_reducible apply Ext.drew | with_reducible apply Ext.drewN))) z2, Ext.cell (Ext.trans XD (by repeat' (first | with_reducible exact Ext.refl _ | with_reducible apply Ext.alloc | with_reducible apply Ext.drew | with_reducible apply Ext.drewN))) x0, Ext.cell (Ext.trans XD (by repeat' (first | with_reducible exact Ext.refl _ | with_reducible apply Ext.alloc | with_reducible apply Ext.drew | with_reducible apply Ext.drewN))) x1, Ext.cell (Ext.trans XD (by repeat' (first | with_reducible exact Ext.refl _ | with_reducible apply Ext.alloc | with_reducible apply Ext.drew | with_reducible apply Ext.drewN))) x2, Ext.cell (Ext.trans XD (by repeat' (first | with_reducible exact Ext.refl _ | with_reducible apply Ext.alloc | with_reducible apply Ext.drew | with_reducible apply Ext.drewN))) y0, Ext.cell (Ext.trans XD (by repeat' (first | with_reducible exact Ext.refl _ | with_reducible apply Ext.alloc | with_reducible apply Ext.drew | with_reducible apply Ext.drewN))) y1, Ext.cell (Ext.trans XD (by repeat' (first | with_reducible exact Ext.refl _ | with_reducible apply Ext.alloc | with_reducible apply Ext.drew | with_reducible apply Ext.drewN))) y2, HLK.out _ (Ext.trans XD (by repeat' (first | with_reducible exact Ext.refl _ | with_reducible apply Ext.alloc | with_reducible apply Ext.drew | with_reducible apply Ext.drewN)))⟩ | exact ⟨Ext.cell (by repeat' (first | with_reducible exact Ext.refl _ | with_reducible apply Ext.alloc | with_reducible apply Ext.drew | with_reducible apply Ext.drewN)) z0, Ext.cell (by repeat' (first | with_reducible exact Ext.refl _ | with_reducible apply Ext.alloc | with_reducible apply Ext.drew | with_reducible apply Ext.drewN)) z1, Ext.cell (by repeat' (first | with_reducible exact Ext.refl _ | with_reducible apply Ext.alloc | with_reducible apply Ext.drew | with_reducible apply Ext.drewN)) z2, Ext.cell (by repeat' (first | with_reducible exact Ext.refl _ | with_reducible apply Ext.alloc | with_reducible apply Ext.drew | with_reducible apply Ext.drewN)) x0, Ext.cell (by repeat' (first | with_reducible exact Ext.refl _ | with_reducible apply Ext.alloc | with_reducible apply Ext.drew | with_reducible apply Ext.drewN)) x1, Ext.cell (by repeat' (first | with_reducible exact Ext.refl _ | with_reducible apply Ext.alloc | with_reducible apply Ext.drew | with_reducible apply Ext.drewN)) x2, Ext.cell (by repeat' (first | with_reducible exact Ext.refl _ | with_reducible apply Ext.alloc | with_reducible apply Ext.drew | with_reducible apply Ext.drewN)) y0, Ext.cell (by repeat' (first | with_reducible exact Ext.refl _ | with_reducible apply Ext.alloc | with_reducible apply Ext.drew | with_reducible apply Ext.drewN)) y1, Ext.cell (by repeat' (first | with_reducible exact Ext.refl _ | with_reducible apply Ext.alloc | with_reducible apply Ext.drew | with_reducible apply Ext.drewN)) y2, HLK.out _ (by repeat' (first | with_reducible exact Ext.refl _ | with_reducible apply Ext.alloc | with_reducible apply Ext.drew | with_reducible apply Ext.drewN))⟩)
              (first
                | (go_at_call 71; refine (HML.out _ _ _ (by exact HQ3.out.ext (by repeat' (first | with_reducible exact Ext.refl _ | with_reducible apply Ext.alloc | with_reducible apply Ext.drew | with_reducible apply Ext.drewN))) (by exact HQ4.out.ext (by repeat' (first | with_reducible exact Ext.refl _ | with_reducible apply Ext.alloc | with_reducible apply Ext.drew | with_reducible apply Ext.drewN)))).mono ?_; rintro e w6 ⟨r6, rfl, h6, X6⟩; obtain ⟨s6, ao6, l6, c6, bo6, m6, d6, rfl, _, _, _⟩ := h6.opn; have XD : Ext W2 w6 := Ext.trans (by repeat' (first | with_reducible exact Ext.refl _ | with_reducible apply Ext.alloc | with_reducible apply Ext.drew | with_reducible apply Ext.drewN)) X6; have HQ6 := Lib.hid h6; have HO6 := Lib.hid (HO5.out.ext XD); have HX6 := Lib.hid (HX5.out.trans XD); clear h6 X6)
                | (refine step_appQk (sl := .tmp 47) (x := .tmp 62) rfl rfl HO6.out HQ6.out rfl rfl rfl HTL.out HX6.out.size ?_; intro v7 w7 hown hgrew hclean hkeep; have zz0 := hgrew.by'.cell (XD.cell z0) HT8X.out; have zz1 := hgrew.by'.cell (XD.cell z1) HT8X.out; have zz2 := hgrew.by'.cell (XD.cell z2) HT8X.out; have xx0 := hkeep _ _ _ HXOB.out (by rw [HLN.out]; omega) (XD.cell x0); have xx1 := hkeep _ _ _ HXOB.out (by rw [HLN.out]; omega) (XD.cell x1); have xx2 := hkeep _ _ _ HXOB.out (by rw [HLN.out]; omega) (XD.cell x2); have HE7 := Lib.hid (QsO.grew HO6.out hgrew HX6.out (Nat.le_refl _)); have yy0 := HE7.out.cell HY4.out.1; have yy1 := HE7.out.cell HY4.out.2.1; have yy2 := HE7.out.cell HY4.out.2.2; have hlk9 := HLK4.out _ HE7.out; have HO7 := Lib.hid hown; clear hown hgrew hclean hkeep))
            all_goals
              clear zz0 zz1 zz2 xx0 xx1 xx2 yy0 yy1 yy2 hlk9 z0 z1 z2 x0 x1 x2 y0 y1 y2
              go_wp2_with fail
              go_roundw
              case rel => exact ⟨k + 1, by omega, by go_num, by rw [HTJ.out]; exact HO7.out, HE7.out⟩
              case measure => simp [intOf]; omega
        · have hke : k = n := by omega
          subst hke
          have HR0 := HO.out
          rw [List.take_of_length_le (by rw [HPL.out, List.length_map]; have := HSL.out; omega)] at HR0
          have HOU2 := Lib.hid (HOU.out _ wr (HX4.out.trans X) (HR0.toV (by rw [HPL.out, List.length_map]; have := HSL.out; omega)))
          have HX5 := Lib.hid (HX4.out.trans X)
          have hge : ¬ (k : Int) < (k : Int) := by omega
          clear hlt HO HR0 X
          go_wp2_with fail
          refine HOU2.out.mono ?_
          rintro e w6 ⟨X6, ⟨ho, rfl⟩ | ⟨os, u6, ho, rfl, hos⟩⟩
          · have HOO := Lib.hid ho
            have HX6 := Lib.hid (HX5.out.trans X6)
            clear ho X6
            go_wp2_with fail
            go_ret2
            exact ⟨_, rfl, HX6.out, .inr (.inr ⟨HE.out, HE2.out, .inl ⟨HOO.out, rfl⟩⟩)⟩
          · have HOO := Lib.hid ho
            have HOS := Lib.hid hos
            have HX6 := Lib.hid (HX5.out.trans X6)
            clear ho hos X6
            go_wp2_with fail
            go_ret2
            exact ⟨_, rfl, HX6.out, .inr (.inr ⟨HE.out, HE2.out, .inr ⟨os, _, HOO.out, rfl, HOS.out⟩⟩)⟩
    · have hb : (E2 != 0) = true := by rw [bne_iff_ne]; exact h2
      obtain ⟨ao, c, rfl, _, _⟩ := hv.open
      obtain ⟨so, sc, rfl, _, _⟩ := hu.open
      clear hE hE2 hT hr hpp hv hu hz hzs htab
      go_enter Tryz.func36, Tryz.ntmps36
      go_wp2_with fail
      refine HCK.out.mono ?_
      rintro e w1 ⟨rfl, X1⟩
      go_wp2_with fail
      refine (HSTR.out _ X1).mono ?_
      rintro e w2 ⟨rfl, X2⟩
      go_wp2_with fail
      go_ret2
      exact ⟨_, rfl, X1.trans X2, .inr (.inl ⟨HE.out, by rw [HE2.out]; exact h2, by rw [HE2.out]; rfl⟩)⟩
  · have hb : (E != 0) = true := by rw [bne_iff_ne]; exact h0
    obtain ⟨ao, c, rfl, _, _⟩ := hv.open
    obtain ⟨so, sc, rfl, _, _⟩ := hu.open
    clear hE hE2 hv hu hz hzs htab HSTR
    go_enter Tryz.func36, Tryz.ntmps36
    go_wp2_with fail
    refine HCK.out.mono ?_
    rintro e w1 ⟨rfl, X1⟩
    go_wp2_with fail
    go_ret2
    exact ⟨_, rfl, X1, .inl ⟨by rw [HE.out]; exact h0, by rw [HE.out]; rfl⟩⟩
end Go.Proofs.YtkfheeffbombhaaGreatDoor/- walks: slices.Equal of sequences; half; recallFact; recallError -/
namespace Go.Proofs.YtkfheeffbombhaaGreatDoor
open Go.RowKit
set_option linter.unusedVariables false

@[go_sem] theorem eq_seq3 (a b c d e f : Int) (w : World) : (Op.equalIn 10000 62 (.agg #[.int .i64 a, .int .i64 b, .int .i64 c]) (.agg #[.int .i64 d, .int .i64 e, .int .i64 f])).run Tryz.prog w = .ok (a == d && (b == e && c == f)) w := by
  have u3 := Tryz.underlying3
  have a3 := Tryz.isAgg3
  have z3 := Tryz.sizeOf3
  rw [show (10000 : Nat) = 9999 + 1 from rfl, run_equalIn_struct w 9999 62 _ _ (by kernel_rfl) (by kernel_rfl)]
  have hf : (Tryz.prog.fieldsOf 62).toList = [{ name := "Info", type := 3, offset := 0, embedded := false, tag := "", pkgPath := "", byteOffset := 0 }, { name := "Choice", type := 3, offset := 1, embedded := false, tag := "", pkgPath := "", byteOffset := 8 }, { name := "Before", type := 3, offset := 2, embedded := false, tag := "", pkgPath := "", byteOffset := 16 }] := by kernel_rfl
  rw [hf]
  simp only [Op.eqFields]
  go_simp
  by_cases h1 : a = d <;> by_cases h2 : b = e <;> by_cases h3 : c = f <;> simp [h1, h2, h3]

set_option maxHeartbeats 1600000 in
set_option maxRecDepth 100000 in
theorem equal_sq (u v : Value) (l : List (Int × Int × Int)) (w : World) (hu : SqIn w u l) (hv : SqIn w v l) (hl : l.length ≤ 100000) :
    Calls Tryz.prog 32 #[u, v] w fun e w' => e = .returned (.bool true) ∧ Ext w w' := by
  obtain ⟨ao, c, rfl, hc⟩ := hu
  obtain ⟨bo, d, rfl, hd⟩ := hv
  have HC := Lib.hid hc
  have HD := Lib.hid hd
  clear hc hd
  go_enter Tryz.func32, Tryz.ntmps32
  go_wp2_with fail
  go_loopw [13] (fun i wr => ∃ k : Nat, k ≤ l.length ∧ i = .int .i64 k ∧ Ext w wr) (fun i _ => l.length - (intOf i).toNat)
  case atStart => exact ⟨0, Nat.zero_le _, rfl, Ext.refl _⟩
  case round =>
    obtain ⟨k, hk, rfl, HX⟩ := hrel
    by_cases hlt : k < l.length
    · obtain ⟨x, h1, _, _⟩ := get_lt hlt
      obtain ⟨b, off, rfl, x0, x1, x2⟩ := (HC.out.ext HX).at h1
      obtain ⟨b2, off2, rfl, y0, y1, y2⟩ := (HD.out.ext HX).at h1
      have hki : (k : Int) < (l.length : Int) := by omega
      obtain ⟨xa, xb, xc⟩ := x
      dsimp only at x0 x1 x2 y0 y1 y2
      have g1 : (xa == xa) = true := by simp
      have g2 : (xb == xb) = true := by simp
      have g3 : (xc == xc) = true := by simp
      clear hlt
      go_wp2_with fail
      go_quiet (fail)
      go_wp2_with fail
      go_roundw
      case rel => exact ⟨k + 1, by omega, by go_num, HX.drewN _⟩
      case measure => simp [intOf] <;> omega
    · have hge : ¬ (k : Int) < (l.length : Int) := by omega
      clear hlt
      go_wp2_with fail
      go_ret
      exact ⟨rfl, HX⟩
theorem lit_sq (w : World) (e : TypeId) (l : List (Int × Int × Int)) (k : Nat) (hk : k = w.heap.size) : SqIn (w.alloc (.cells (flat3 l).toArray e)) (.slice (some ⟨k, 0, none⟩) l.length l.length) l := by
  subst hk
  refine ⟨_, _, rfl, fun j u hu => ⟨_, 0, rfl, ?_⟩⟩
  rw [Nat.zero_add, World.cell?_alloc_new]
  simpa using hu

/-! ### half -/
def halfT : ByteArray := ⟨#[49, 47, 50]⟩
def halfS (q : Int) : List Ch := [(q, [halfT, halfT])]
set_option maxHeartbeats 1600000 in
set_option maxRecDepth 100000 in
theorem half_any (q : Int) (w : World) : Calls Tryz.prog 64 #[.int .i64 q] w fun e w' => ∃ u, e = .returned u ∧ StrIn w' u (halfS q) ∧ Ext w w' := by
  obtain ⟨k, hk⟩ : ∃ k, w.heap.size = k := ⟨_, rfl⟩
  obtain ⟨W1, hW1⟩ : ∃ W1, w.alloc (.cells #[.string ⟨#[49, 47, 50]⟩, .string ⟨#[49, 47, 50]⟩] 36) = W1 := ⟨_, rfl⟩
  have k1 : W1.heap.size = k + 1 := by rw [← hW1, World.size_alloc, hk]
  have X1 : Ext w W1 := by rw [← hW1]; exact (Ext.refl w).alloc _
  have h1 : Strs W1 (.slice (some ⟨k, 0, none⟩) 2 2) [halfT, halfT] := by
    rw [← hW1, ← hk]
    exact lit_strs w 36 [halfT, halfT] (by simp)
  have HU : Hid (StrIn (W1.alloc (.cells #[.int .i64 q, .slice (some ⟨k, 0, none⟩) 2 2] 74)) (.slice (some ⟨k + 1, 0, none⟩) 1 1) (halfS q)) := by
    refine ⟨some ⟨k + 1, 0, none⟩, 1, rfl, Nat.le_refl _, (fun h => by cases h), by simp [halfS], fun i x hx => ?_⟩
    match i, hx with
    | 0, hx =>
      cases hx
      refine ⟨k + 1, 0, .slice (some ⟨k, 0, none⟩) 2 2, rfl, ?_, ?_, h1.ext ((Ext.refl _).alloc _)⟩
      · rw [← k1]; simp [go_sem]
      · rw [← k1]; simp [go_sem]
  have HX := Lib.hid X1
  clear h1 X1
  go_enter Tryz.func64, Tryz.ntmps64
  go_wp2_with fail
  go_ret
  exact ⟨_, rfl, HU.out, HX.out.alloc _⟩

/-! ### plain: what recallFact says -/
theorem rfact_player0 : playerE guessT 0 = 0 := by decide +kernel
theorem rfact_rem0 : remB guessT 0 = true := by decide +kernel
theorem rfact_recall1 : recallE guessT 1 = 0 := by decide +kernel
theorem rfact_seqs : seqsL guessT 1 guessT.length = [(-1, -1, -1), (3, 0, 0), (3, 1, 0)] := by decide +kernel
theorem rfact_at : atL guessT 1 = [0, 0, 0, 1, 2, 1, 2] := by decide +kernel
theorem rfact_str : strategyE guessT 1 (halfS 3) = 0 := by decide +kernel
theorem rfact_plan : outsG (planL guessT 1 (halfS 3)) = some [⟨#[49]⟩, ⟨#[49, 47, 50]⟩, ⟨#[49, 47, 50]⟩] := by decide +kernel
theorem rfact_nil : strategyE guessT 1 [] = 3 := by decide +kernel
theorem rfact_valid : Valid guessT := valid_of guess_ok
theorem rguess_sz : TreeSz guessT := fun x hx => by
  unfold guessT at hx
  simp only [List.mem_cons, List.not_mem_nil, or_false] at hx
  rcases hx with rfl | rfl | rfl | rfl | rfl | rfl | rfl <;> exact ⟨by decide, fun s hs => by cases hs⟩
theorem rhalf_sz (q : Int) : StrSz (halfS q) := fun x hx s hs => by
  unfold halfS at hx
  rw [List.mem_singleton] at hx
  subst hx
  simp only [List.mem_cons, List.not_mem_nil, or_false] at hs
  rcases hs with rfl | rfl <;> decide
theorem strIn_nil (w : World) : StrIn w (.slice none 0 0) [] := ⟨none, 0, rfl, Nat.le_refl _, fun _ => rfl, by simp, fun i x hx => by simp at hx⟩

set_option maxHeartbeats 6400000 in
set_option maxRecDepth 100000 in
theorem recallFact_any (w : World) (htab : TabPow w) : Calls Tryz.prog 25 #[] w fun e w' => e = .returned (.bool true) ∧ Ext w w' := by
  have HTB := Lib.hid htab
  clear htab
  go_enter Tryz.func25, Tryz.ntmps25
  go_wp2_with fail
  refine (guess_any w).mono ?_
  rintro e w1 ⟨u1, rfl, hT1, X1⟩
  have HPF := Lib.hid (perfect_any u1 guessT 0 w1 (tabPow_ext HTB.out X1) hT1 rguess_sz)
  rw [rfact_player0, rfact_rem0] at HPF
  have HPF : Hid (Calls Tryz.prog 26 #[u1, .int .i64 0] w1 fun e w' => e = .returned (.tuple #[.bool true, .int .i64 0]) ∧ Ext w1 w') := HPF.out
  clear hT1
  go_wp2_with fail
  refine HPF.out.mono ?_
  rintro e w2 ⟨rfl, X2⟩
  have Y2 := X1.trans X2
  clear X1 X2 HPF
  go_wp2_with fail
  refine (guess_any w2).mono ?_
  rintro e w3 ⟨u3, rfl, hT3, X3⟩
  have Y3 := Y2.trans X3
  have HSQ := Lib.hid (sequences_any u3 guessT 1 w3 (tabPow_ext HTB.out Y3) hT3 rguess_sz)
  clear hT3 X3 Y2
  go_wp2_with fail
  refine HSQ.out.mono ?_
  rintro e w4 ⟨r4, rfl, X4, ⟨h, _⟩ | ⟨_, a4, rfl, ha4⟩⟩
  · exact absurd rfact_recall1 h
  rw [rfact_seqs] at ha4
  have HA := Lib.hid ha4
  have Y4 := Y3.trans X4
  clear ha4 X4 Y3 HSQ
  go_wp2_with fail
  refine (guess_any w4).mono ?_
  rintro e w5 ⟨u5, rfl, hT5, X5⟩
  have Y5 := Y4.trans X5
  have HAT := Lib.hid (atNodes_any u5 guessT 1 w5 (tabPow_ext HTB.out Y5) hT5 rguess_sz)
  have HA := Lib.hid (HA.out.ext X5)
  clear hT5 X5 Y4
  go_wp2_with fail
  refine HAT.out.mono ?_
  rintro e w6 ⟨r6, rfl, X6, ⟨h, _⟩ | ⟨_, a6, rfl, ha6⟩⟩
  · exact absurd rfact_recall1 h
  rw [rfact_at] at ha6
  have HB := Lib.hid ha6
  have HA := Lib.hid (HA.out.ext X6)
  have Y6 := Y5.trans X6
  clear ha6 X6 Y5 HAT
  go_wp2_with fail
  refine (guess_any w6).mono ?_
  rintro e w7 ⟨u7, rfl, hT7, X7⟩
  have HT7 := Lib.hid hT7
  have Y7 := Y6.trans X7
  have HA := Lib.hid (HA.out.ext X7)
  have HB := Lib.hid (HB.out.ext X7)
  clear hT7 X7 Y6
  go_wp2_with fail
  refine (half_any 3 w7).mono ?_
  rintro e w8 ⟨u8, rfl, hS8, X8⟩
  have Y8 := Y7.trans X8
  have HA := Lib.hid (HA.out.ext X8)
  have HB := Lib.hid (HB.out.ext X8)
  have HPL := Lib.hid (plan_any u7 u8 guessT 1 (halfS 3) w8 (tabPow_ext HTB.out Y8) (HT7.out.ext X8) rguess_sz hS8 (rhalf_sz 3))
  clear hS8 X8 Y7 HT7
  go_wp2_with fail
  refine HPL.out.mono ?_
  rintro e w9 ⟨r9, rfl, X9, ⟨h, _⟩ | ⟨_, h, _⟩ | ⟨_, _, ⟨h, _⟩ | ⟨os, a9, ho, rfl, ha9⟩⟩⟩
  · exact absurd rfact_recall1 h
  · exact absurd rfact_str h
  · rw [rfact_plan] at h; cases h
  rw [rfact_plan] at ho
  obtain rfl := Option.some.inj ho
  have HC := Lib.hid ha9
  have HA := Lib.hid (HA.out.ext X9)
  have HB := Lib.hid (HB.out.ext X9)
  have Y9 := Y8.trans X9
  clear ha9 ho X9 Y8 HPL
  go_wp2_with fail
  refine (fine_any _ [0, 0, 0, 0] _ (by exact lit_ints_at w9 _ ([0, 0, 0, 0] : List Int) (by decide) _ (by first | rfl | simp)) true rfl).mono ?_
  rintro e w10 ⟨rfl, X10⟩
  have Z10 := ((Ext.refl w9).alloc _).trans X10
  have Y10 := Y9.trans Z10
  have HA := Lib.hid (HA.out.ext Z10)
  have HB := Lib.hid (HB.out.ext Z10)
  have HC := Lib.hid (HC.out.ext Z10)
  clear X10 Z10 Y9
  go_wp2_with fail
  refine (equal_sq _ _ [(-1, -1, -1), (3, 0, 0), (3, 1, 0)] _ (by exact HA.out.ext ((Ext.refl w10).alloc _)) (by exact lit_sq w10 _ [(-1, -1, -1), (3, 0, 0), (3, 1, 0)] _ (by first | rfl | simp)) (by decide)).mono ?_
  rintro e w11 ⟨rfl, X11⟩
  have Z11 := ((Ext.refl w10).alloc _).trans X11
  have Y11 := Y10.trans Z11
  have HB := Lib.hid (HB.out.ext Z11)
  have HC := Lib.hid (HC.out.ext Z11)
  clear X11 Z11 Y10
  go_wp2_with fail
  refine (equal_ints _ _ [0, 0, 0, 1, 2, 1, 2] [0, 0, 0, 1, 2, 1, 2] _ (by exact HB.out.ext ((Ext.refl w11).alloc _)) (by exact lit_ints_at w11 _ ([0, 0, 0, 1, 2, 1, 2] : List Int) (by decide) _ (by first | rfl | simp)) true (by show _ = _; decide)).mono ?_
  rintro e w12 ⟨rfl, X12⟩
  have Z12 := ((Ext.refl w11).alloc _).trans X12
  have Y12 := Y11.trans Z12
  have HC := Lib.hid (HC.out.ext Z12)
  clear X12 Z12 Y11
  go_wp2_with fail
  refine (equal_vec _ _ ([(⟨#[49]⟩ : ByteArray), ⟨#[49, 47, 50]⟩, ⟨#[49, 47, 50]⟩] : List ByteArray) _ (by exact HC.out.ext ((Ext.refl w12).alloc _)) (by exact lit_strs_at _ _ ([(⟨#[49]⟩ : ByteArray), ⟨#[49, 47, 50]⟩, ⟨#[49, 47, 50]⟩] : List ByteArray) (by simp) _ (by first | rfl | simp))).mono ?_
  rintro e w13 ⟨rfl, X13⟩
  have Z13 := ((Ext.refl w12).alloc _).trans X13
  have Y13 := Y12.trans Z13
  clear X13 Z13 Y12
  go_wp2_with fail
  refine (guess_any w13).mono ?_
  rintro e w14 ⟨u14, rfl, hT14, X14⟩
  have Y14 := Y13.trans X14
  have HST := Lib.hid (strategy_any u14 (.slice none 0 0) guessT 1 [] w14 (tabPow_ext HTB.out Y14) hT14 rfact_valid (strIn_nil w14) (fun x hx => by cases hx))
  rw [rfact_nil] at HST
  clear hT14 X14 Y13
  go_wp2_with fail
  refine HST.out.mono ?_
  rintro e w15 ⟨rfl, X15⟩
  have Y15 := Y14.trans X15
  clear X15 Y14
  go_wp2_with fail
  go_ret
  exact ⟨rfl, Y15⟩

/-! ### recallError -/
set_option maxHeartbeats 1600000 in
set_option maxRecDepth 100000 in
theorem rRecallError_any (v : Value) (T : List Nd) (p : Int) (w : World) (hv : TreeIn w v T) (hz : TreeSz T) :
    Calls Tryz.prog 30 #[v, .int .i64 p] w fun e w' => e = .returned (.int .i64 (recallE T p)) ∧ Ext w w' := by
  have HP := Lib.hid (rPlayerError_any v T p w hv hz)
  have HI := Lib.hid (fun (hT : Valid T) W (hX : Ext w W) => rRemembers_any v T p W (hv.ext hX) hT)
  have HVT := Lib.hid (fun (h : playerE T p = 0) => (valid_player h).1)
  unfold recallE
  obtain ⟨E, hE⟩ : ∃ E, playerE T p = E := ⟨_, rfl⟩
  rw [hE] at HP HVT ⊢
  obtain ⟨ao, c, rfl, _, _⟩ := hv.open
  obtain ⟨R, hR⟩ : ∃ R, remB T p = R := ⟨_, rfl⟩
  rw [hR] at HI ⊢
  clear hv hz hE hR
  by_cases h0 : E = 0
  · subst h0
    have HI2 := Lib.hid (HI.out (HVT.out rfl))
    rw [if_neg (by simp)]
    cases R with
    | true =>
      rw [if_pos rfl]
      go_enter Tryz.func30, Tryz.ntmps30
      go_wp2_with fail
      refine HP.out.mono ?_
      rintro e w2 ⟨rfl, X2⟩
      go_wp2_with fail
      refine (HI2.out _ X2).mono ?_
      rintro e w3 ⟨rfl, X3⟩
      go_wp2_with fail
      go_ret
      exact ⟨rfl, X2.trans X3⟩
    | false =>
      rw [if_neg (by simp)]
      go_enter Tryz.func30, Tryz.ntmps30
      go_wp2_with fail
      refine HP.out.mono ?_
      rintro e w2 ⟨rfl, X2⟩
      go_wp2_with fail
      refine (HI2.out _ X2).mono ?_
      rintro e w3 ⟨rfl, X3⟩
      go_wp2_with fail
      go_ret
      exact ⟨rfl, X2.trans X3⟩
  · have hb : (E != 0) = true := by rw [bne_iff_ne]; exact h0
    rw [if_pos h0]
    go_enter Tryz.func30, Tryz.ntmps30
    go_wp2_with fail
    refine HP.out.mono ?_
    rintro e w2 ⟨rfl, X2⟩
    go_wp2_with fail
    go_ret
    exact ⟨rfl, X2⟩
end Go.Proofs.YtkfheeffbombhaaGreatDoor/- the walks of RecallPerfect and RecallSequences -/
namespace Go.Proofs.YtkfheeffbombhaaGreatDoor
open Go.RowKit
set_option linter.unusedVariables false

set_option maxHeartbeats 3200000 in
set_option maxRecDepth 100000 in
theorem recallPerfect_walk (v : Value) (T : List Nd) (p : Int) (w : World) (hv : TreeIn w v T) (hz : TreeSz T) (htab : TabPow w) :
    Calls Tryz.prog 6 #[v, .int .i64 p] w fun e w' => e = .returned (.bool true) ∧ Ext w w' := by
  obtain ⟨wo, rfl⟩ : ∃ wo : World, wo = w := ⟨_, rfl⟩
  have HF := Lib.hid (recallFact_any wo htab)
  have HW := Lib.hid (fun W (hX : Ext wo W) => treeWeight_any v T W (hv.ext hX))
  have H1 := Lib.hid (fun W (hX : Ext wo W) => perfect_any v T p W (tabPow_ext htab hX) (hv.ext hX) hz)
  have H2 := Lib.hid (fun W (hX : Ext wo W) => rPlayerError_any v T p W (hv.ext hX) hz)
  have H3 := Lib.hid (fun (hT : Valid T) W (hX : Ext wo W) => rRemembers_any v T p W (hv.ext hX) hT)
  have HVT := Lib.hid (fun (h : playerE T p = 0) => (valid_player h).1)
  have HVL := Lib.hid (fun (hT : Valid T) => hT.len)
  obtain ⟨ao, c, rfl, hlen, hn⟩ := hv.open
  obtain ⟨E, hE⟩ : ∃ E, playerE T p = E := ⟨_, rfl⟩
  obtain ⟨R, hR⟩ : ∃ R, remB T p = R := ⟨_, rfl⟩
  rw [hE] at H1 H2 HVT
  rw [hR] at H1 H3
  obtain ⟨L, hL⟩ : ∃ L, T.length = L := ⟨_, rfl⟩
  rw [hL] at H1 H2 H3 HW HVL hlen ⊢
  clear hE hR hv hz htab hn hL
  by_cases h0 : E = 0
  · subst h0
    have hT := HVT.out rfl
    have H3 := Lib.hid (H3.out hT)
    have hl := HVL.out hT
    have H1 : Hid (∀ W, Ext wo W → Calls Tryz.prog 26 #[.slice ao L c, .int .i64 p] W fun e w' => e = .returned (.tuple #[.bool R, .int .i64 0]) ∧ Ext W w') := fun W hX => by
      have := H1.out W hX
      rwa [decide_eq_true rfl, Bool.true_and] at this
    clear hT HVT HVL
    go_enter Tryz.func6, Tryz.ntmps6
    go_wp2_with fail
    refine HF.out.mono ?_
    rintro e w1 ⟨rfl, X1⟩
    go_wp2_with fail
    refine (HW.out _ X1).mono ?_
    rintro e w2 ⟨n, rfl, X2⟩
    have Y2 := X1.trans X2
    clear X1 X2
    by_cases hw : 6000 < n
    · go_wp2_with fail
      go_ret
      exact ⟨rfl, Y2⟩
    · go_wp2_with fail
      refine (H1.out _ Y2).mono ?_
      rintro e w3 ⟨rfl, X3⟩
      have Y3 := Y2.trans X3
      clear X3 Y2
      go_wp2_with fail
      refine (H2.out _ Y3).mono ?_
      rintro e w4 ⟨rfl, X4⟩
      have Y4 := Y3.trans X4
      clear X4 Y3
      by_cases hbig : 40 < L
      · have hbi : (40 : Int) < (L : Int) := by omega
        go_wp2_with fail
        go_ret
        exact ⟨rfl, Y4⟩
      · have hbi : ¬ (40 : Int) < (L : Int) := by omega
        go_wp2_with fail
        refine (H3.out _ Y4).mono ?_
        rintro e w5 ⟨rfl, X5⟩
        have Y5 := Y4.trans X5
        clear X5 Y4
        cases R with
        | true =>
          go_wp2_with fail
          go_ret
          exact ⟨rfl, Y5⟩
        | false =>
          go_wp2_with fail
          go_ret
          exact ⟨rfl, Y5⟩
  · have hb : (E != 0) = true := by rw [bne_iff_ne]; exact h0
    rw [decide_eq_false h0, Bool.false_and] at H1
    go_enter Tryz.func6, Tryz.ntmps6
    go_wp2_with fail
    refine HF.out.mono ?_
    rintro e w1 ⟨rfl, X1⟩
    go_wp2_with fail
    refine (HW.out _ X1).mono ?_
    rintro e w2 ⟨n, rfl, X2⟩
    have Y2 := X1.trans X2
    clear X1 X2
    by_cases hw : 6000 < n
    · go_wp2_with fail
      go_ret
      exact ⟨rfl, Y2⟩
    · go_wp2_with fail
      refine (H1.out _ Y2).mono ?_
      rintro e w3 ⟨rfl, X3⟩
      have Y3 := Y2.trans X3
      clear X3 Y2
      go_wp2_with fail
      refine (H2.out _ Y3).mono ?_
      rintro e w4 ⟨rfl, X4⟩
      have Y4 := Y3.trans X4
      clear X4 Y3
      go_wp2_with fail
      go_ret
      exact ⟨rfl, Y4⟩

/-! ### RecallSequences -/
theorem atL_get {T : List Nd} {p : Int} {k : Nat} (hk : k < T.length) : (atL T p)[k]? = some ((atN T p k : Nat) : Int) := by
  unfold atL
  rw [List.getElem?_map, List.getElem?_range hk]
  rfl
theorem atL_len (T : List Nd) (p : Int) : (atL T p).length = T.length := by unfold atL; simp
theorem atN_idx {T : List Nd} (p : Int) (k : Nat) : idxL (waysL T p T.length) (own T p k) = atN T p k := rfl
theorem own_at {T : List Nd} (hT : Valid T) {p : Int} (hr : remB T p = true) {k : Nat} (hk : k < T.length) : own T p k ∈ waysL T p T.length :=
  (waysL_le (p := p) (by omega : k ≤ T.length)).subset (own_in hT hr hk)
set_option maxHeartbeats 6400000 in
set_option maxRecDepth 100000 in
theorem recallSequences_walk (v : Value) (T : List Nd) (p : Int) (w : World) (hv : TreeIn w v T) (hz : TreeSz T) (htab : TabPow w) :
    Calls Tryz.prog 7 #[v, .int .i64 p] w fun e w' => e = .returned (.bool true) ∧ Ext w w' := by
  obtain ⟨wo, rfl⟩ : ∃ wo : World, wo = w := ⟨_, rfl⟩
  have HF := Lib.hid (recallFact_any wo htab)
  have HW := Lib.hid (fun W (hX : Ext wo W) => treeWeight_any v T W (hv.ext hX))
  have H1 := Lib.hid (fun W (hX : Ext wo W) => sequences_any v T p W (tabPow_ext htab hX) (hv.ext hX) hz)
  have H2 := Lib.hid (fun W (hX : Ext wo W) => atNodes_any v T p W (tabPow_ext htab hX) (hv.ext hX) hz)
  have H3 := Lib.hid (fun W (hX : Ext wo W) => rRecallError_any v T p W (hv.ext hX) hz)
  have H4 := Lib.hid (fun (hT : Valid T) (hr : remB T p = true) W (hX : Ext wo W) => rSequences_any v T p W (hv.ext hX) hT hr)
  have HOWN := Lib.hid (fun (hT : Valid T) (k : Nat) (hk : k < T.length) W (hX : Ext wo W) => rOwnF_any v T p k W (hv.ext hX) hT hk)
  obtain ⟨ao, c, rfl, hlen, hn⟩ := hv.open
  clear hv hz htab hn
  by_cases h0 : recallE T p = 0
  · obtain ⟨hT, hr, _, _⟩ := recall_ok h0
    have HVT := Lib.hid hT
    have HVR := Lib.hid hr
    have H4 := Lib.hid (H4.out hT hr)
    have HOWN := Lib.hid (HOWN.out hT)
    have HAG := Lib.hid (fun (k : Nat) (hk : k < T.length) => atL_get (p := p) hk)
    have HAL := Lib.hid (atL_len T p)
    have HSL : Hid ((seqsL T p T.length).length ≤ 100000) := by
      show _ ≤ _
      rw [seqsL_len]
      have := ways_size hT p T.length (Nat.le_refl _)
      have := hT.len
      omega
    have HWL : Hid ((waysL T p T.length).length ≤ 100000) := by
      show _ ≤ _
      rw [← seqsL_len]; exact HSL.out
    have HMM := Lib.hid (fun (k : Nat) (hk : k < T.length) => own_at hT hr (p := p) hk)
    have HPL := Lib.hid (fun (k : Nat) (hk : k < T.length) => own_len hT p hk)
    have hlT := hT.len
    rw [h0] at H3
    have HE := Lib.hid h0
    clear h0 hT hr
    go_enter Tryz.func7, Tryz.ntmps7
    go_wp2_with fail
    refine HF.out.mono ?_
    rintro e w1 ⟨rfl, X1⟩
    go_wp2_with fail
    refine (HW.out _ X1).mono ?_
    rintro e w2 ⟨n, rfl, X2⟩
    have Y2 := X1.trans X2
    clear X1 X2
    by_cases hw : 6000 < n
    · go_wp2_with fail
      go_ret
      exact ⟨rfl, Y2⟩
    · by_cases hbig : 40 < T.length
      · have hbi : (40 : Int) < (T.length : Int) := by omega
        go_wp2_with fail
        go_ret
        exact ⟨rfl, Y2⟩
      · have hbi : ¬ (40 : Int) < (T.length : Int) := by omega
        go_wp2_with fail
        refine (H1.out _ Y2).mono ?_
        rintro e w3 ⟨r3, rfl, X3, ⟨h, _⟩ | ⟨_, a3, rfl, ha3⟩⟩
        · exact absurd HE.out h
        have HA := Lib.hid ha3
        have Y3 := Y2.trans X3
        clear X3 Y2 ha3
        go_wp2_with fail
        refine (H2.out _ Y3).mono ?_
        rintro e w4 ⟨r4, rfl, X4, ⟨h, _⟩ | ⟨_, a4, rfl, ha4⟩⟩
        · exact absurd HE.out h
        have HB := Lib.hid ha4
        have HA := Lib.hid (HA.out.ext X4)
        have Y4 := Y3.trans X4
        clear X4 Y3 ha4
        go_wp2_with fail
        refine (H3.out _ Y4).mono ?_
        rintro e w5 ⟨rfl, X5⟩
        have HB := Lib.hid (HB.out.ext X5)
        have HA := Lib.hid (HA.out.ext X5)
        have Y5 := Y4.trans X5
        clear X5 Y4
        go_wp2_with fail
        refine (H4.out _ Y5).mono ?_
        rintro e w6 ⟨r6, rfl, s6, g6, n6, c6, rfl, hs6, hg6, X6⟩
        have hn6 := hg6.len
        subst hn6
        have HB := Lib.hid (HB.out.ext X6)
        have HA := Lib.hid (HA.out.ext X6)
        have HS := Lib.hid hs6
        have HG := Lib.hid hg6
        have Y6 := Y5.trans X6
        clear X6 Y5 hs6 hg6
        go_wp2_with fail
        refine (equal_sq _ _ _ _ HA.out HS.out HSL.out).mono ?_
        rintro e w7 ⟨rfl, X7⟩
        have HB := Lib.hid (HB.out.ext X7)
        have HG := Lib.hid (HG.out.ext X7)
        have Y7 := Y6.trans X7
        clear X7 Y6 HA HS
        obtain ⟨bo, bc, rfl, _, hbb⟩ := HB.out.open
        have HBB := Lib.hid hbb
        rw [HAL.out]
        clear HB hbb
        have hll : (T.length != T.length) = false := by simp
        go_wp2_with fail
        go_loopw [81] (fun kv wr => ∃ (k : Nat), k ≤ T.length ∧ kv = .int .i64 k ∧ Ext w7 wr) (fun kv _ => T.length - (intOf kv).toNat)
        case atStart => exact ⟨0, Nat.zero_le _, rfl, Ext.refl _⟩
        case round =>
          obtain ⟨k, hk, rfl, X⟩ := hrel
          by_cases hlt : k < T.length
          · have hkk : (k : Int) < (T.length : Int) := by omega
            obtain ⟨ab, aoff, rfl, a0⟩ := (HBB.out.ext X).at (HAG.out k hlt)
            have a0 : wr.cell? ⟨ab, aoff + k, none⟩ = some (.int .i64 ((atN T p k : Nat) : Int)) := a0
            have HO := Lib.hid (HOWN.out k hlt)
            have HM := Lib.hid (HMM.out k hlt)
            have HP := Lib.hid (HPL.out k hlt)
            have HGX := Lib.hid (HG.out.ext X)
            have HXR := Lib.hid (Y7.trans X)
            have HX := Lib.hid X
            obtain ⟨K, hK⟩ : ∃ K, atN T p k = K := ⟨_, rfl⟩
            rw [hK] at a0
            have HWAY := Lib.hid (fun u W B (hg : PsG W B (.slice (some ⟨g6, 0, none⟩) (waysL T p T.length).length c6) (waysL T p T.length)) (hu : P2In W u (own T p k)) => (by
              have := rWay_any g6 _ c6 u (waysL T p T.length) (own T p k) W hg hu HWL.out HM.out
              rw [atN_idx, hK] at this
              exact this : Calls Tryz.prog 33 #[.slice (some ⟨g6, 0, none⟩) (waysL T p T.length).length c6, u] W fun e w' => e = .returned (.int .i64 (K : Int)) ∧ Ext W w'))
            have hb1 : ((K : Int) != (K : Int)) = false := by simp
            obtain ⟨Wn, hWn⟩ : ∃ Wn, (waysL T p T.length).length = Wn := ⟨_, rfl⟩
            have HWN := Lib.hid hWn
            rw [hWn] at HGX HWAY ⊢
            clear hlt X hK hWn
            have X0 : Ext wr wr := Ext.refl wr
            go_wp2_with fail
            go_region_held3 (fun W9 => W9.cell? ⟨ab, aoff + k, none⟩ = some (.int .i64 (K : Int)))
              (first | exact XW.cell a0 | exact XO.cell a0 | exact a0 | go_keep)
              (first
                | (go_at_call 34; refine (HO.out _ (HXR.out.trans (by repeat' (first | with_reducible exact Ext.refl _ | with_reducible apply Ext.alloc | with_reducible apply Ext.drew)))).mono ?_; rintro e w8 ⟨u8, rfl, h8, X8⟩; have XO : Ext wr w8 := Ext.trans (by repeat' (first | with_reducible exact Ext.refl _ | with_reducible apply Ext.alloc | with_reducible apply Ext.drew)) X8; have HU8 := Lib.hid (h8.toIn (by have := HP.out; omega)); clear h8)
                | (go_at_call 33; refine (HWAY.out _ _ _ (HGX.out.ext (by first | exact XO | exact XO.drew)) (by first | exact HU8.out | exact HU8.out.ext ((Ext.refl _).drew))).mono ?_; rintro e w9 ⟨rfl, X9⟩; have XW : Ext wr w9 := by first | exact XO.trans X9 | exact XO.drew.trans X9))
            all_goals
              go_wp2_with fail
              go_roundw
              case rel => exact ⟨k + 1, by omega, by go_num, HX.out.trans (by first | exact XW | exact XW.drew)⟩
              case measure => simp [intOf]; omega
          · have hge : ¬ (k : Int) < (T.length : Int) := by omega
            clear hlt
            go_wp2_with fail
            go_ret
            exact ⟨rfl, Y7.trans X⟩
  · obtain ⟨E, hE⟩ : ∃ E, recallE T p = E := ⟨_, rfl⟩
    have HE := Lib.hid hE
    rw [hE] at H3 h0
    have hb : (E != 0) = true := by rw [bne_iff_ne]; exact h0
    clear H4 HOWN hE
    go_enter Tryz.func7, Tryz.ntmps7
    go_wp2_with fail
    refine HF.out.mono ?_
    rintro e w1 ⟨rfl, X1⟩
    go_wp2_with fail
    refine (HW.out _ X1).mono ?_
    rintro e w2 ⟨n, rfl, X2⟩
    have Y2 := X1.trans X2
    clear X1 X2
    by_cases hw : 6000 < n
    · go_wp2_with fail
      go_ret
      exact ⟨rfl, Y2⟩
    · by_cases hbig : 40 < T.length
      · have hbi : (40 : Int) < (T.length : Int) := by omega
        go_wp2_with fail
        go_ret
        exact ⟨rfl, Y2⟩
      · have hbi : ¬ (40 : Int) < (T.length : Int) := by omega
        go_wp2_with fail
        refine (H1.out _ Y2).mono ?_
        rintro e w3 ⟨r3, rfl, X3, ⟨_, rfl⟩ | ⟨h, _⟩⟩
        · have Y3 := Y2.trans X3
          rw [HE.out]
          clear X3 Y2
          go_wp2_with fail
          refine (H2.out _ Y3).mono ?_
          rintro e w4 ⟨r4, rfl, X4, ⟨_, rfl⟩ | ⟨h, _⟩⟩
          · have Y4 := Y3.trans X4
            rw [HE.out]
            clear X4 Y3
            go_wp2_with fail
            refine (H3.out _ Y4).mono ?_
            rintro e w5 ⟨rfl, X5⟩
            have Y5 := Y4.trans X5
            clear X5 Y4
            go_wp2_with fail
            go_ret
            exact ⟨rfl, Y5⟩
          · rw [HE.out] at h; exact absurd h h0
        · rw [HE.out] at h; exact absurd h h0
end Go.Proofs.YtkfheeffbombhaaGreatDoor
