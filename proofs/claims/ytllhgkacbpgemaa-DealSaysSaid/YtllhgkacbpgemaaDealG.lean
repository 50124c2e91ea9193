/- the walk of dealt -/
import Derived.Test.YtllhgkacbpgemaaDealE
import Derived.Test.YtllhgkacbpgemaaSlD
namespace Go.Proofs.Ytllhgkacbpgemaa
open Go.RowKit
set_option linter.unusedVariables false

theorem any_dec (l : List PV) (f : PV → Bool) : decide (false ∈ l.map f) = l.any (fun p => !f p) := by
  rw [Bool.eq_iff_iff]
  simp

set_option maxHeartbeats 2000000 in
set_option maxRecDepth 100000 in
theorem dealt_S (B tb pb n : Nat) (l : List PV) (cheat : Int) (sv ov opv : Value) (w : World) (hv : Tab w B tb pb n l cheat) (hs : Bools w sv (l.map (·.sealed))) (ho : Bools w ov (l.map (·.opened)))
    (h1 : l.any (fun p => !p.sealed) = true) (h2 : l.any (fun p => !p.opened) = true) (h3 : cheat < 0) :
    Calls Try.prog 33 #[.pointer (some ⟨tb, 0, none⟩), .int .i64 n, sv, ov, opv, .int .i64 cheat] w fun e w' => e = .returned (.bool true) ∧ Ext w w' := by
  have hst : stageF l cheat = 0 := by simp only [stageF, h1, h2]; rw [if_neg (by omega)]; rfl
  have hs1 : decide (false ∈ l.map (·.sealed)) = true := by rw [any_dec]; exact h1
  have ho1 : decide (false ∈ l.map (·.opened)) = true := by rw [any_dec]; exact h2
  have HS := Lib.hid (fun (W : World) (hW : Ext w W) => contains_bools sv _ false W (hs.ext hW) _ hs1)
  have HO := Lib.hid (fun (W : World) (hW : Ext w W) => contains_bools ov _ false W (ho.ext hW) _ ho1)
  have HV := Lib.hid hv
  have HST := Lib.hid hst
  have hlen := hv.len
  have hcd : decide (0 ≤ cheat) = false := by simp; omega
  have hcd2 : decide (cheat < 0) = true := by simp; omega
  have hw : Bools w sv (l.map (·.sealed)) := hs
  obtain ⟨ao, ac, rfl, _, hwc⟩ := hw.open
  simp only [List.length_map] at *
  have HWC := Lib.hid hwc
  have HNO := Lib.hid h2
  have HDK := Lib.hid (fun (W : World) (hW : Ext w W) => deck_err B tb pb n l cheat W (hv.ext hW) (by rw [hst]; decide))
  have HSG := fun (W : World) (hW : Ext w W) => stage_any B tb pb n l cheat W (hv.ext hW)
  have HMI := fun (W : World) (hW : Ext w W) => missing_any B tb pb n l cheat W (hv.ext hW)
  rw [hst] at HSG HMI
  have HSG := Lib.hid HSG
  have HMI := Lib.hid HMI
  have HCH := Lib.hid (fun (W : World) (hW : Ext w W) => cheat_none B tb pb n l cheat W (hv.ext hW) h3)
  clear hst hs1 ho1 hs ho hw hwc hv h1 h2
  go_enter Try.func33, Try.ntmps33
  go_wp2_with fail
  refine (HS.out _ (Ext.refl _)).mono ?_
  rintro e w1 ⟨rfl, rfl⟩
  go_wp2_with fail
  refine (HO.out _ (Ext.refl _)).mono ?_
  rintro e w1 ⟨rfl, rfl⟩
  go_wp2_with fail
  go_loopw [15, 41] (fun u i wr => ∃ (k m : Nat), k ≤ l.length ∧ i = .int .i64 k ∧ Ext w wr ∧ m ≤ k ∧ wr.ownsRow w.heap.size 3 1 u m ((missTo 0 l k).map (Value.int .i64))) (fun _ i _ => l.length - (intOf i).toNat)
  case atStart => exact ⟨0, 0, Nat.zero_le _, rfl, Ext.refl _, Nat.le_refl _, World.ownsRow_nil _ _ _ _⟩
  case round =>
    obtain ⟨k, mm, hk, rfl, HX, hmk, HOW⟩ := hrel
    have hsz := HX.size
    by_cases hlt : k < l.length
    · obtain ⟨p, g1, _, _⟩ := get_lt hlt
      obtain ⟨wb, woff, rfl, hcell0⟩ := HWC.out.at (i := k) (x := p.sealed) (by simp [Hid, g1.out])
      have hcell := HX.cell hcell0
      clear hcell0
      obtain ⟨q, hq⟩ : ∃ q, p.sealed = q := ⟨_, rfl⟩
      rw [hq] at hcell
      have HP := Lib.hid hq
      clear hq
      cases q
      all_goals
        go_wp2_with (at_builtin; refine wp_app1 rfl rfl ei_ints HOW rfl rfl rfl rfl (by omega) (by omega) (by omega) ?_; intro v' w' hown hgrew)
        go_roundw
        case rel =>
          first
            | exact ⟨k + 1, mm, by omega, by go_num, HX, by omega, by rw [missTo_no g1 (by simp [waitB, HP.out])]; exact HOW⟩
            | exact ⟨k + 1, mm + 1, by omega, by go_num, hgrew.extNew HX HOW (Nat.le_refl _), by omega, by rw [missTo_yes g1 (by simp [waitB, HP.out]), List.map_append]; exact hown⟩
        case measure => simp [intOf]; omega
    · have hkl : k = l.length := by omega
      subst hkl
      have HOW2 := own_rowOf (xs := missTo 0 l l.length) HOW (by omega)
      obtain ⟨wo, rfl⟩ : ∃ wo : World, wo = wr := ⟨_, rfl⟩
      clear HOW
      have HOW3 := Lib.hid HOW2
      clear HOW2
      go_wp2_with fail
      refine (HCH.out _ (by exact HX)).mono ?_
      rintro e w2 ⟨rfl, rfl⟩
      go_wp2_with fail
      refine (HDK.out _ (by exact HX)).mono ?_
      rintro e w3 ⟨rfl, hx3⟩
      have X3 := HX.trans hx3
      have W53 := hx3
      clear hx3
      go_wp2_with fail
      refine (HSG.out _ (by exact X3)).mono ?_
      rintro e w4 ⟨rfl, hx4⟩
      have X4 := X3.trans hx4
      go_wp2_with fail
      refine (HMI.out _ (by exact X4)).mono ?_
      rintro e w5 ⟨mu, rfl, hMU, hx5⟩
      have X5 := X4.trans hx5
      have W5 : Ext wo w5 := W53.trans (hx4.trans hx5)
      go_wp2_with fail
      refine (equal_ints _ _ (missF 0 l) _ _ hMU (HOW3.out.ext W5) true (by simp [Hid, missF])).mono ?_
      rintro e w6 ⟨rfl, hx6⟩
      have X6 := X5.trans hx6
      clear hx4 hx5 hx6 hMU W53 W5 X3 X4 X5
      go_wp2_with fail
      go_ret
      exact ⟨rfl, X6⟩

set_option maxHeartbeats 2000000 in
set_option maxRecDepth 100000 in
theorem dealt_O (B tb pb n : Nat) (l : List PV) (cheat : Int) (sv ov opv : Value) (w : World) (hv : Tab w B tb pb n l cheat) (hs : Bools w sv (l.map (·.sealed))) (ho : Bools w ov (l.map (·.opened)))
    (h1 : l.any (fun p => !p.sealed) = false) (h2 : l.any (fun p => !p.opened) = true) (h3 : cheat < 0) :
    Calls Try.prog 33 #[.pointer (some ⟨tb, 0, none⟩), .int .i64 n, sv, ov, opv, .int .i64 cheat] w fun e w' => e = .returned (.bool true) ∧ Ext w w' := by
  have hst : stageF l cheat = 1 := by simp only [stageF, h1, h2]; rw [if_neg (by omega)]; rfl
  have hs1 : decide (false ∈ l.map (·.sealed)) = false := by rw [any_dec]; exact h1
  have ho1 : decide (false ∈ l.map (·.opened)) = true := by rw [any_dec]; exact h2
  have HS := Lib.hid (fun (W : World) (hW : Ext w W) => contains_bools sv _ false W (hs.ext hW) _ hs1)
  have HO := Lib.hid (fun (W : World) (hW : Ext w W) => contains_bools ov _ false W (ho.ext hW) _ ho1)
  have HV := Lib.hid hv
  have HST := Lib.hid hst
  have hlen := hv.len
  have hcd : decide (0 ≤ cheat) = false := by simp; omega
  have hcd2 : decide (cheat < 0) = true := by simp; omega
  have hw : Bools w ov (l.map (·.opened)) := ho
  obtain ⟨ao, ac, rfl, _, hwc⟩ := hw.open
  simp only [List.length_map] at *
  have HWC := Lib.hid hwc
  have HNO := Lib.hid h2
  have HDK := Lib.hid (fun (W : World) (hW : Ext w W) => deck_err B tb pb n l cheat W (hv.ext hW) (by rw [hst]; decide))
  have HSG := fun (W : World) (hW : Ext w W) => stage_any B tb pb n l cheat W (hv.ext hW)
  have HMI := fun (W : World) (hW : Ext w W) => missing_any B tb pb n l cheat W (hv.ext hW)
  rw [hst] at HSG HMI
  have HSG := Lib.hid HSG
  have HMI := Lib.hid HMI
  have HCH := Lib.hid (fun (W : World) (hW : Ext w W) => cheat_none B tb pb n l cheat W (hv.ext hW) h3)
  clear hst hs1 ho1 hs ho hw hwc hv h1 h2
  go_enter Try.func33, Try.ntmps33
  go_wp2_with fail
  refine (HS.out _ (Ext.refl _)).mono ?_
  rintro e w1 ⟨rfl, rfl⟩
  go_wp2_with fail
  refine (HO.out _ (Ext.refl _)).mono ?_
  rintro e w1 ⟨rfl, rfl⟩
  go_wp2_with fail
  go_loopw [15, 41] (fun u i wr => ∃ (k m : Nat), k ≤ l.length ∧ i = .int .i64 k ∧ Ext w wr ∧ m ≤ k ∧ wr.ownsRow w.heap.size 3 1 u m ((missTo 1 l k).map (Value.int .i64))) (fun _ i _ => l.length - (intOf i).toNat)
  case atStart => exact ⟨0, 0, Nat.zero_le _, rfl, Ext.refl _, Nat.le_refl _, World.ownsRow_nil _ _ _ _⟩
  case round =>
    obtain ⟨k, mm, hk, rfl, HX, hmk, HOW⟩ := hrel
    have hsz := HX.size
    by_cases hlt : k < l.length
    · obtain ⟨p, g1, _, _⟩ := get_lt hlt
      obtain ⟨wb, woff, rfl, hcell0⟩ := HWC.out.at (i := k) (x := p.opened) (by simp [Hid, g1.out])
      have hcell := HX.cell hcell0
      clear hcell0
      obtain ⟨q, hq⟩ : ∃ q, p.opened = q := ⟨_, rfl⟩
      rw [hq] at hcell
      have HP := Lib.hid hq
      clear hq
      cases q
      all_goals
        go_wp2_with (at_builtin; refine wp_app1 rfl rfl ei_ints HOW rfl rfl rfl rfl (by omega) (by omega) (by omega) ?_; intro v' w' hown hgrew)
        go_roundw
        case rel =>
          first
            | exact ⟨k + 1, mm, by omega, by go_num, HX, by omega, by rw [missTo_no g1 (by simp [waitB, HP.out])]; exact HOW⟩
            | exact ⟨k + 1, mm + 1, by omega, by go_num, hgrew.extNew HX HOW (Nat.le_refl _), by omega, by rw [missTo_yes g1 (by simp [waitB, HP.out]), List.map_append]; exact hown⟩
        case measure => simp [intOf]; omega
    · have hkl : k = l.length := by omega
      subst hkl
      have HOW2 := own_rowOf (xs := missTo 1 l l.length) HOW (by omega)
      obtain ⟨wo, rfl⟩ : ∃ wo : World, wo = wr := ⟨_, rfl⟩
      clear HOW
      have HOW3 := Lib.hid HOW2
      clear HOW2
      go_wp2_with fail
      refine (HCH.out _ (by exact HX)).mono ?_
      rintro e w2 ⟨rfl, rfl⟩
      go_wp2_with fail
      refine (HDK.out _ (by exact HX)).mono ?_
      rintro e w3 ⟨rfl, hx3⟩
      have X3 := HX.trans hx3
      have W53 := hx3
      clear hx3
      go_wp2_with fail
      refine (HSG.out _ (by exact X3)).mono ?_
      rintro e w4 ⟨rfl, hx4⟩
      have X4 := X3.trans hx4
      go_wp2_with fail
      refine (HMI.out _ (by exact X4)).mono ?_
      rintro e w5 ⟨mu, rfl, hMU, hx5⟩
      have X5 := X4.trans hx5
      have W5 : Ext wo w5 := W53.trans (hx4.trans hx5)
      go_wp2_with fail
      refine (equal_ints _ _ (missF 1 l) _ _ hMU (HOW3.out.ext W5) true (by simp [Hid, missF])).mono ?_
      rintro e w6 ⟨rfl, hx6⟩
      have X6 := X5.trans hx6
      clear hx4 hx5 hx6 hMU W53 W5 X3 X4 X5
      go_wp2_with fail
      go_ret
      exact ⟨rfl, X6⟩

set_option maxHeartbeats 2000000 in
set_option maxRecDepth 100000 in
theorem dealt_F (B tb pb n : Nat) (l : List PV) (cheat : Int) (sv ov opv : Value) (w : World) (hv : Tab w B tb pb n l cheat) (hs : Bools w sv (l.map (·.sealed))) (ho : Bools w ov (l.map (·.opened)))
    (h1 : l.any (fun p => !p.sealed) = false) (h2 : l.any (fun p => !p.opened) = true) (h3 : 0 ≤ cheat) :
    Calls Try.prog 33 #[.pointer (some ⟨tb, 0, none⟩), .int .i64 n, sv, ov, opv, .int .i64 cheat] w fun e w' => e = .returned (.bool true) ∧ Ext w w' := by
  have hst : stageF l cheat = 3 := by simp only [stageF, h1, h2]; rw [if_pos h3]
  have hs1 : decide (false ∈ l.map (·.sealed)) = false := by rw [any_dec]; exact h1
  have ho1 : decide (false ∈ l.map (·.opened)) = true := by rw [any_dec]; exact h2
  have HS := Lib.hid (fun (W : World) (hW : Ext w W) => contains_bools sv _ false W (hs.ext hW) _ hs1)
  have HO := Lib.hid (fun (W : World) (hW : Ext w W) => contains_bools ov _ false W (ho.ext hW) _ ho1)
  have HV := Lib.hid hv
  have HST := Lib.hid hst
  have hlen := hv.len
  have hcd : decide (0 ≤ cheat) = true := by simp; omega
  have hcd2 : decide (cheat < 0) = false := by simp; omega
  have hw : Bools w ov (l.map (·.opened)) := ho
  obtain ⟨ao, ac, rfl, _, hwc⟩ := hw.open
  simp only [List.length_map] at *
  have HWC := Lib.hid hwc
  have HNO := Lib.hid h2
  have HDK := Lib.hid (fun (W : World) (hW : Ext w W) => deck_err B tb pb n l cheat W (hv.ext hW) (by rw [hst]; decide))
  have HSG := fun (W : World) (hW : Ext w W) => stage_any B tb pb n l cheat W (hv.ext hW)
  have HMI := fun (W : World) (hW : Ext w W) => missing_any B tb pb n l cheat W (hv.ext hW)
  rw [hst] at HSG HMI
  have HSG := Lib.hid HSG
  have HMI := Lib.hid HMI
  have HCH := Lib.hid (fun (W : World) (hW : Ext w W) => cheat_some B tb pb n l cheat W (hv.ext hW) h3)
  clear hst hs1 ho1 hs ho hw hwc hv h1 h2
  go_enter Try.func33, Try.ntmps33
  go_wp2_with fail
  refine (HS.out _ (Ext.refl _)).mono ?_
  rintro e w1 ⟨rfl, rfl⟩
  go_wp2_with fail
  refine (HO.out _ (Ext.refl _)).mono ?_
  rintro e w1 ⟨rfl, rfl⟩
  go_wp2_with fail
  go_loopw [15, 41] (fun u i wr => ∃ (k m : Nat), k ≤ l.length ∧ i = .int .i64 k ∧ Ext w wr ∧ m ≤ k ∧ wr.ownsRow w.heap.size 3 1 u m ((missTo 3 l k).map (Value.int .i64))) (fun _ i _ => l.length - (intOf i).toNat)
  case atStart => exact ⟨0, 0, Nat.zero_le _, rfl, Ext.refl _, Nat.le_refl _, World.ownsRow_nil _ _ _ _⟩
  case round =>
    obtain ⟨k, mm, hk, rfl, HX, hmk, HOW⟩ := hrel
    have hsz := HX.size
    by_cases hlt : k < l.length
    · obtain ⟨p, g1, _, _⟩ := get_lt hlt
      obtain ⟨wb, woff, rfl, hcell0⟩ := HWC.out.at (i := k) (x := p.opened) (by simp [Hid, g1.out])
      have hcell := HX.cell hcell0
      clear hcell0
      obtain ⟨q, hq⟩ : ∃ q, p.opened = q := ⟨_, rfl⟩
      rw [hq] at hcell
      have HP := Lib.hid hq
      clear hq
      cases q
      all_goals
        go_wp2_with (at_builtin; refine wp_app1 rfl rfl ei_ints HOW rfl rfl rfl rfl (by omega) (by omega) (by omega) ?_; intro v' w' hown hgrew)
        go_roundw
        case rel =>
          first
            | exact ⟨k + 1, mm, by omega, by go_num, HX, by omega, by rw [missTo_no g1 (by simp [waitB, HP.out])]; exact HOW⟩
            | exact ⟨k + 1, mm + 1, by omega, by go_num, hgrew.extNew HX HOW (Nat.le_refl _), by omega, by rw [missTo_yes g1 (by simp [waitB, HP.out]), List.map_append]; exact hown⟩
        case measure => simp [intOf]; omega
    · have hkl : k = l.length := by omega
      subst hkl
      have HOW2 := own_rowOf (xs := missTo 3 l l.length) HOW (by omega)
      obtain ⟨wo, rfl⟩ : ∃ wo : World, wo = wr := ⟨_, rfl⟩
      clear HOW
      have HOW3 := Lib.hid HOW2
      clear HOW2
      go_wp2_with fail
      refine (HCH.out _ (by exact HX)).mono ?_
      rintro e w2 ⟨rfl, rfl⟩
      go_wp2_with fail
      refine (HDK.out _ (by exact HX)).mono ?_
      rintro e w3 ⟨rfl, hx3⟩
      have X3 := HX.trans hx3
      have W53 := hx3
      clear hx3
      go_wp2_with fail
      refine (HSG.out _ (by exact X3)).mono ?_
      rintro e w4 ⟨rfl, hx4⟩
      have X4 := X3.trans hx4
      go_wp2_with fail
      refine (HMI.out _ (by exact X4)).mono ?_
      rintro e w5 ⟨mu, rfl, hMU, hx5⟩
      have X5 := X4.trans hx5
      have W5 : Ext wo w5 := W53.trans (hx4.trans hx5)
      go_wp2_with fail
      refine (equal_ints _ _ (missF 3 l) _ _ hMU (HOW3.out.ext W5) true (by simp [Hid, missF])).mono ?_
      rintro e w6 ⟨rfl, hx6⟩
      have X6 := X5.trans hx6
      clear hx4 hx5 hx6 hMU W53 W5 X3 X4 X5
      go_wp2_with fail
      go_ret
      exact ⟨rfl, X6⟩

set_option maxHeartbeats 2000000 in
set_option maxRecDepth 100000 in
theorem dealt_D (B tb pb n : Nat) (l : List PV) (cheat : Int) (sv ov opv : Value) (dss : List (List Int)) (w : World) (hv : Tab w B tb pb n l cheat) (hs : Bools w sv (l.map (·.sealed))) (ho : Bools w ov (l.map (·.opened)))
    (h1 : l.any (fun p => !p.sealed) = false) (h2 : l.any (fun p => !p.opened) = false) (h3 : cheat < 0) (h52 : n ≤ 52) (hd : Rows (Value.int .i64) w opv dss) (hdl : dss.length = l.length) (hr : ∀ (i : Nat) (p : PV) (ds : List Int), l[i]? = some p → dss[i]? = some ds → Ints w p.draws ds) (hf : firstErr n dss = 0) :
    Calls Try.prog 33 #[.pointer (some ⟨tb, 0, none⟩), .int .i64 n, sv, ov, opv, .int .i64 cheat] w fun e w' => e = .returned (.bool true) ∧ Ext w w' := by
  have hst : stageF l cheat = 2 := by simp only [stageF, h1, h2]; rw [if_neg (by omega)]; rfl
  have hs1 : decide (false ∈ l.map (·.sealed)) = false := by rw [any_dec]; exact h1
  have ho1 : decide (false ∈ l.map (·.opened)) = false := by rw [any_dec]; exact h2
  have HS := Lib.hid (fun (W : World) (hW : Ext w W) => contains_bools sv _ false W (hs.ext hW) _ hs1)
  have HO := Lib.hid (fun (W : World) (hW : Ext w W) => contains_bools ov _ false W (ho.ext hW) _ ho1)
  have HV := Lib.hid hv
  have HST := Lib.hid hst
  have hlen := hv.len
  have hcd : decide (0 ≤ cheat) = false := by simp; omega
  have hcd2 : decide (cheat < 0) = true := by simp; omega
  have hw : Bools w ov (l.map (·.opened)) := ho
  obtain ⟨ao, ac, rfl, _, hwc⟩ := hw.open
  simp only [List.length_map] at *
  have HWC := Lib.hid hwc
  have HNO := Lib.hid h2
  have HDK := Lib.hid (fun (W : World) (hW : Ext w W) => deck_ok B tb pb n l cheat dss W (hv.ext hW) hst h52 hdl (fun i p ds a b => (hr i p ds a b).ext hW) hf)
  have HFE := Lib.hid hf
  have HDL := Lib.hid hdl
  obtain ⟨us, ⟨dao, dc, rfl, _, hlen2, _, hc⟩, hl, hrr⟩ := hd
  have HC := Lib.hid hc; have HR := Lib.hid hrr; have HL := Lib.hid hl
  have hul : us.length ≤ 6 := by omega
  obtain ⟨m, hm⟩ : ∃ m, n - 1 = m := ⟨_, rfl⟩
  have hmn : m ≤ n := by omega
  have HM := Lib.hid hm
  clear hf hdl hr hc hl hrr hm
  obtain ⟨cb, hcb⟩ : ∃ cb, Hid (combF n dss = cb) := ⟨_, rfl⟩
  have HSG := fun (W : World) (hW : Ext w W) => stage_any B tb pb n l cheat W (hv.ext hW)
  have HMI := fun (W : World) (hW : Ext w W) => missing_any B tb pb n l cheat W (hv.ext hW)
  rw [hst] at HSG HMI
  have HSG := Lib.hid HSG
  have HMI := Lib.hid HMI
  have HCH := Lib.hid (fun (W : World) (hW : Ext w W) => cheat_none B tb pb n l cheat W (hv.ext hW) h3)
  clear hst hs1 ho1 hs ho hw hwc hv h1 h2
  rcases Nat.lt_or_ge 1 n with h1n | h1n
  · have hm1 : m + 1 ≤ n := by have := HM.out; omega
    have hm2 : n ≤ m + 1 := by have := HM.out; omega
    go_enter Try.func33, Try.ntmps33
    go_wp2_with fail
    refine (HS.out _ (Ext.refl _)).mono ?_
    rintro e w1 ⟨rfl, rfl⟩
    go_wp2_with fail
    refine (HO.out _ (Ext.refl _)).mono ?_
    rintro e w1 ⟨rfl, rfl⟩
    go_wp2_with fail
    go_loopw [15, 41] (fun u i wr => ∃ (k m : Nat), k ≤ l.length ∧ i = .int .i64 k ∧ Ext w wr ∧ m ≤ k ∧ wr.ownsRow w.heap.size 3 1 u m ((missTo 2 l k).map (Value.int .i64))) (fun _ i _ => l.length - (intOf i).toNat)
    case atStart => exact ⟨0, 0, Nat.zero_le _, rfl, Ext.refl _, Nat.le_refl _, World.ownsRow_nil _ _ _ _⟩
    case round =>
      obtain ⟨k, mm, hk, rfl, HX, hmk, HOW⟩ := hrel
      have hsz := HX.size
      by_cases hlt : k < l.length
      · obtain ⟨p, g1, _, _⟩ := get_lt hlt
        obtain ⟨wb, woff, rfl, hcell0⟩ := HWC.out.at (i := k) (x := p.opened) (by simp [Hid, g1.out])
        have hcell := HX.cell hcell0
        clear hcell0
        have hpo : p.opened = true := by
          have := HNO.out; simp only [List.any_eq_false] at this
          have := this p (List.mem_of_getElem? g1.out); simpa using this
        rw [hpo] at hcell
        have HP := Lib.hid hpo
        clear hpo
        all_goals
          go_wp2_with (at_builtin; refine wp_app1 rfl rfl ei_ints HOW rfl rfl rfl rfl (by omega) (by omega) (by omega) ?_; intro v' w' hown hgrew)
          go_roundw
          case rel =>
            first
              | exact ⟨k + 1, mm, by omega, by go_num, HX, by omega, by rw [missTo_no g1 (by simp [waitB, HP.out])]; exact HOW⟩
              | exact ⟨k + 1, mm + 1, by omega, by go_num, hgrew.extNew HX HOW (Nat.le_refl _), by omega, by rw [missTo_yes g1 (by simp [waitB, HP.out]), List.map_append]; exact hown⟩
          case measure => simp [intOf]; omega
      · have hkl : k = l.length := by omega
        subst hkl
        have HOW2 := own_rowOf (xs := missTo 2 l l.length) HOW (by omega)
        obtain ⟨wo, rfl⟩ : ∃ wo : World, wo = wr := ⟨_, rfl⟩
        clear HOW
        have HOW3 := Lib.hid HOW2
        clear HOW2
        go_wp2_with fail
        refine (HCH.out _ (by exact HX)).mono ?_
        rintro e w2 ⟨rfl, rfl⟩
        go_wp2_with fail
        refine (HDK.out _ (by exact HX)).mono ?_
        rintro e w3 ⟨dv, rfl, hDV, hx3⟩
        have X3 := HX.trans hx3
        rw [hcb.out] at hDV
        have HDV := Lib.hid (own_rowOf (xs := shufF (freshI n) cb) hDV (by omega))
        have W53 := hx3
        clear hx3 hDV
        go_wp2_with fail
        refine (HSG.out _ (by exact X3)).mono ?_
        rintro e w4 ⟨rfl, hx4⟩
        have X4 := X3.trans hx4
        go_wp2_with fail
        refine (HMI.out _ (by exact X4)).mono ?_
        rintro e w5 ⟨mu, rfl, hMU, hx5⟩
        have X5 := X4.trans hx5
        have W5 : Ext wo w5 := W53.trans (hx4.trans hx5)
        go_wp2_with fail
        refine (equal_ints _ _ (missF 2 l) _ _ hMU (HOW3.out.ext W5) true (by simp [Hid, missF])).mono ?_
        rintro e w6 ⟨rfl, hx6⟩
        have X6 := X5.trans hx6
        have HDV6 := Lib.hid (HDV.out.ext (hx4.trans (hx5.trans hx6)))
        clear hx4 hx5 hx6 hMU W53 W5 X3 X4 X5
        go_wp2_with fail
        go_loopw [22, 113] (fun u i wr => ∃ (k : Nat), k ≤ n ∧ i = .int .i64 k ∧ Ext w6 wr ∧ wr.ownsRow w6.heap.size 3 1 u k ((freshI k).map (Value.int .i64))) (fun _ i _ => n - (intOf i).toNat)
        case atStart => exact ⟨0, Nat.zero_le _, rfl, Ext.refl _, World.ownsRow_nil _ _ _ _⟩
        case round =>
          obtain ⟨k, hk, rfl, HY, HOW⟩ := hrel
          have hsz := HY.size
          by_cases hlt : k < n
          · go_wp2_with (at_builtin; refine wp_app1 rfl rfl ei_ints HOW rfl rfl rfl rfl (by omega) (by omega) (by omega) ?_; intro v' w' hown hgrew)
            go_roundw
            case rel => exact ⟨k + 1, by omega, by go_num, hgrew.extNew HY HOW (Nat.le_refl _), by rw [freshI_succ, List.map_append]; exact hown⟩
            case measure => simp [intOf]; omega
          · have hkn : k = n := by omega
            subst hkn
            have HF := Lib.hid (own_rowOf (xs := freshI k) HOW (by omega))
            have X7 := X6.trans HY
            have HDV7 := Lib.hid (HDV6.out.ext HY)
            obtain ⟨w7, rfl⟩ : ∃ w7 : World, w7 = wr := ⟨_, rfl⟩
            clear HOW HDV6 HY hsz
            go_wp2_with fail
            go_loopw [23, 124] (fun u i wr => ∃ (j : Nat), j ≤ m ∧ i = .int .i64 j ∧ Ext w7 wr ∧ wr.ownsRow w7.heap.size 3 1 u j (((List.range j).map (combAt k dss)).map (Value.int .i64))) (fun _ i _ => m - (intOf i).toNat)
            case atStart => exact ⟨0, Nat.zero_le _, rfl, Ext.refl _, World.ownsRow_nil _ _ _ _⟩
            case round =>
              obtain ⟨j, hj, rfl, HZ, HOW⟩ := hrel
              have hsz := HZ.size
              obtain ⟨wi, rfl⟩ : ∃ wi : World, wi = wr := ⟨_, rfl⟩
              by_cases hjt : j < m
              · have hjn : j < k - 1 := by have := HM.out; omega
                obtain ⟨S, hS⟩ : ∃ S, colSum dss j = S := ⟨_, rfl⟩
                have hSb := colSum_bd h52 HFE.out j hjn
                rw [hS] at hSb
                have hca : combAt k dss j = S % ((k : Int) - j) := by rw [← hS]; rfl
                have hS2 := Lib.hid hS
                have HCA := Lib.hid hca
                clear hS hca
                go_wp2_with fail
                go_loop [26, 129] (fun d i => ∃ (q : Nat) (t : Int), q ≤ us.length ∧ i = .int .i64 q ∧ d = .int .i64 t ∧ 0 ≤ t ∧ t ≤ 312 ∧ Hid (colSum (dss.take q) j = t)) (fun _ i => us.length - (intOf i).toNat)
                case atStart => exact ⟨0, 0, Nat.zero_le _, rfl, rfl, by omega, by omega, rfl⟩
                case round =>
                  obtain ⟨q, t, hq, rfl, rfl, ht0, ht1, HT⟩ := hrel
                  by_cases hlt : q < us.length
                  · obtain ⟨u, e1, _, _⟩ := get_lt hlt
                    obtain ⟨x, g1, g2, g3⟩ := get_lt (xs := dss) (k := q) (by rw [← HL.out]; exact hlt)
                    obtain ⟨b, off, rfl, hcell0⟩ := HC.out q u e1.out
                    have hcell := (X7.trans HZ).cell hcell0
                    clear hcell0
                    have hrow := (HR.out q u x e1.out g1.out).ext (X7.trans HZ)
                    obtain ⟨hxl, hxd⟩ := drawsErr_zero (firstErr_zero k dss HFE.out x (List.mem_of_getElem? g1.out))
                    obtain ⟨y, hq1, _, _⟩ := get_lt (xs := x) (k := j) (by omega)
                    have hqb := hxd j y hq1.out
                    have hjx : j < x.length := by omega
                    obtain ⟨xo, xc, rfl, _, hxc⟩ := hrow.open
                    obtain ⟨xb, xoff, rfl, hxcell⟩ := hxc.at hq1
                    have hsn := colSum_snoc g3 j
                    rw [HT.out, show x.getD j 0 = y from by rw [List.getD_eq_getElem?_getD, hq1.out]; rfl] at hsn
                    have hbd := (colSum_bd h52 (firstErr_take HFE.out (q + 1)) j hjn).2
                    rw [hsn] at hbd
                    have hlk : (dss.take (q + 1)).length ≤ 6 := by have := HDL.out; simp; omega
                    have HSN := Lib.hid hsn
                    have hbd2 : t + y ≤ 312 := by omega
                    clear hxc hrow hsn hxd hxl hbd hlk
                    go_wp2_with fail
                    go_round
                    case rel => exact ⟨q + 1, t + y, by omega, by go_num, by go_num, by omega, hbd2, HSN.out⟩
                    case measure => simp [intOf]; omega
                  · obtain ⟨_, h1⟩ := get_ge (xs := dss) (k := q) (by rw [← HL.out]; exact hlt)
                    have htS : t = S := by rw [← HT.out, h1.out, hS2.out]
                    subst htS
                    clear HT h1
                    go_wp2_with (at_builtin; refine wp_app1 rfl rfl ei_ints HOW rfl rfl rfl rfl (by omega) (by omega) (by omega) ?_; intro v' w' hown hgrew)
                    go_roundw
                    case rel => exact ⟨j + 1, by omega, by go_num, hgrew.extNew HZ HOW (Nat.le_refl _), by rw [List.range_succ, List.map_append, List.map_append, List.map_singleton, List.map_singleton, HCA.out]; exact hown⟩
                    case measure => simp [intOf]; omega
              · have hjm : j = m := by omega
                subst hjm
                have hdr : (List.range j).map (combAt k dss) = cb := by rw [← hcb.out, ← HM.out]; rfl
                rw [hdr] at HOW
                have HDW := Lib.hid (own_rowOf (xs := cb) HOW (by omega))
                have hcl : drawsErr (freshI k).length cb = 0 := by rw [freshI_len, ← hcb.out]; exact combF_draws k dss
                have HCL := Lib.hid hcl
                clear HOW hdr hcl
                go_wp2_with fail
                refine (shuffled_any _ _ (freshI k) cb _ (HF.out.ext HZ) HDW.out (by rw [freshI_len]; exact h52) HCL.out).mono ?_
                rintro e w8 ⟨sr, rfl, hSR, hx8⟩
                go_wp2_with fail
                refine (equal_ints _ _ (shufF (freshI k) cb) _ _ (HDV7.out.ext (HZ.trans hx8)) (own_rowOf (xs := shufF (freshI k) cb) hSR (by rw [freshI_len]; omega)) true (by simp [Hid])).mono ?_
                rintro e w9 ⟨rfl, hx9⟩
                go_wp2_with fail
                go_ret
                exact ⟨rfl, X7.trans (HZ.trans (hx8.trans hx9))⟩
  · have hm0 : m ≤ 0 := by have := HM.out; omega
    go_enter Try.func33, Try.ntmps33
    go_wp2_with fail
    refine (HS.out _ (Ext.refl _)).mono ?_
    rintro e w1 ⟨rfl, rfl⟩
    go_wp2_with fail
    refine (HO.out _ (Ext.refl _)).mono ?_
    rintro e w1 ⟨rfl, rfl⟩
    go_wp2_with fail
    go_loopw [15, 41] (fun u i wr => ∃ (k m : Nat), k ≤ l.length ∧ i = .int .i64 k ∧ Ext w wr ∧ m ≤ k ∧ wr.ownsRow w.heap.size 3 1 u m ((missTo 2 l k).map (Value.int .i64))) (fun _ i _ => l.length - (intOf i).toNat)
    case atStart => exact ⟨0, 0, Nat.zero_le _, rfl, Ext.refl _, Nat.le_refl _, World.ownsRow_nil _ _ _ _⟩
    case round =>
      obtain ⟨k, mm, hk, rfl, HX, hmk, HOW⟩ := hrel
      have hsz := HX.size
      by_cases hlt : k < l.length
      · obtain ⟨p, g1, _, _⟩ := get_lt hlt
        obtain ⟨wb, woff, rfl, hcell0⟩ := HWC.out.at (i := k) (x := p.opened) (by simp [Hid, g1.out])
        have hcell := HX.cell hcell0
        clear hcell0
        have hpo : p.opened = true := by
          have := HNO.out; simp only [List.any_eq_false] at this
          have := this p (List.mem_of_getElem? g1.out); simpa using this
        rw [hpo] at hcell
        have HP := Lib.hid hpo
        clear hpo
        all_goals
          go_wp2_with (at_builtin; refine wp_app1 rfl rfl ei_ints HOW rfl rfl rfl rfl (by omega) (by omega) (by omega) ?_; intro v' w' hown hgrew)
          go_roundw
          case rel =>
            first
              | exact ⟨k + 1, mm, by omega, by go_num, HX, by omega, by rw [missTo_no g1 (by simp [waitB, HP.out])]; exact HOW⟩
              | exact ⟨k + 1, mm + 1, by omega, by go_num, hgrew.extNew HX HOW (Nat.le_refl _), by omega, by rw [missTo_yes g1 (by simp [waitB, HP.out]), List.map_append]; exact hown⟩
          case measure => simp [intOf]; omega
      · have hkl : k = l.length := by omega
        subst hkl
        have HOW2 := own_rowOf (xs := missTo 2 l l.length) HOW (by omega)
        obtain ⟨wo, rfl⟩ : ∃ wo : World, wo = wr := ⟨_, rfl⟩
        clear HOW
        have HOW3 := Lib.hid HOW2
        clear HOW2
        go_wp2_with fail
        refine (HCH.out _ (by exact HX)).mono ?_
        rintro e w2 ⟨rfl, rfl⟩
        go_wp2_with fail
        refine (HDK.out _ (by exact HX)).mono ?_
        rintro e w3 ⟨dv, rfl, hDV, hx3⟩
        have X3 := HX.trans hx3
        rw [hcb.out] at hDV
        have HDV := Lib.hid (own_rowOf (xs := shufF (freshI n) cb) hDV (by omega))
        have W53 := hx3
        clear hx3 hDV
        go_wp2_with fail
        refine (HSG.out _ (by exact X3)).mono ?_
        rintro e w4 ⟨rfl, hx4⟩
        have X4 := X3.trans hx4
        go_wp2_with fail
        refine (HMI.out _ (by exact X4)).mono ?_
        rintro e w5 ⟨mu, rfl, hMU, hx5⟩
        have X5 := X4.trans hx5
        have W5 : Ext wo w5 := W53.trans (hx4.trans hx5)
        go_wp2_with fail
        refine (equal_ints _ _ (missF 2 l) _ _ hMU (HOW3.out.ext W5) true (by simp [Hid, missF])).mono ?_
        rintro e w6 ⟨rfl, hx6⟩
        have X6 := X5.trans hx6
        have HDV6 := Lib.hid (HDV.out.ext (hx4.trans (hx5.trans hx6)))
        clear hx4 hx5 hx6 hMU W53 W5 X3 X4 X5
        go_wp2_with fail
        go_loopw [22, 113] (fun u i wr => ∃ (k : Nat), k ≤ n ∧ i = .int .i64 k ∧ Ext w6 wr ∧ wr.ownsRow w6.heap.size 3 1 u k ((freshI k).map (Value.int .i64))) (fun _ i _ => n - (intOf i).toNat)
        case atStart => exact ⟨0, Nat.zero_le _, rfl, Ext.refl _, World.ownsRow_nil _ _ _ _⟩
        case round =>
          obtain ⟨k, hk, rfl, HY, HOW⟩ := hrel
          have hsz := HY.size
          by_cases hlt : k < n
          · go_wp2_with (at_builtin; refine wp_app1 rfl rfl ei_ints HOW rfl rfl rfl rfl (by omega) (by omega) (by omega) ?_; intro v' w' hown hgrew)
            go_roundw
            case rel => exact ⟨k + 1, by omega, by go_num, hgrew.extNew HY HOW (Nat.le_refl _), by rw [freshI_succ, List.map_append]; exact hown⟩
            case measure => simp [intOf]; omega
          · have hkn : k = n := by omega
            subst hkn
            have HF := Lib.hid (own_rowOf (xs := freshI k) HOW (by omega))
            have X7 := X6.trans HY
            have HDV7 := Lib.hid (HDV6.out.ext HY)
            obtain ⟨w7, rfl⟩ : ∃ w7 : World, w7 = wr := ⟨_, rfl⟩
            clear HOW HDV6 HY hsz
            go_wp2_with fail
            go_loopw [23, 124] (fun u i wr => ∃ (j : Nat), j ≤ m ∧ i = .int .i64 j ∧ Ext w7 wr ∧ wr.ownsRow w7.heap.size 3 1 u j (((List.range j).map (combAt k dss)).map (Value.int .i64))) (fun _ i _ => m - (intOf i).toNat)
            case atStart => exact ⟨0, Nat.zero_le _, rfl, Ext.refl _, World.ownsRow_nil _ _ _ _⟩
            case round =>
              obtain ⟨j, hj, rfl, HZ, HOW⟩ := hrel
              have hsz := HZ.size
              obtain ⟨wi, rfl⟩ : ∃ wi : World, wi = wr := ⟨_, rfl⟩
              by_cases hjt : j < m
              · exfalso; have := HM.out; omega
              · have hjm : j = m := by omega
                subst hjm
                have hdr : (List.range j).map (combAt k dss) = cb := by rw [← hcb.out, ← HM.out]; rfl
                rw [hdr] at HOW
                have HDW := Lib.hid (own_rowOf (xs := cb) HOW (by omega))
                have hcl : drawsErr (freshI k).length cb = 0 := by rw [freshI_len, ← hcb.out]; exact combF_draws k dss
                have HCL := Lib.hid hcl
                clear HOW hdr hcl
                go_wp2_with fail
                refine (shuffled_any _ _ (freshI k) cb _ (HF.out.ext HZ) HDW.out (by rw [freshI_len]; exact h52) HCL.out).mono ?_
                rintro e w8 ⟨sr, rfl, hSR, hx8⟩
                go_wp2_with fail
                refine (equal_ints _ _ (shufF (freshI k) cb) _ _ (HDV7.out.ext (HZ.trans hx8)) (own_rowOf (xs := shufF (freshI k) cb) hSR (by rw [freshI_len]; omega)) true (by simp [Hid])).mono ?_
                rintro e w9 ⟨rfl, hx9⟩
                go_wp2_with fail
                go_ret
                exact ⟨rfl, X7.trans (HZ.trans (hx8.trans hx9))⟩
end Go.Proofs.Ytllhgkacbpgemaa
