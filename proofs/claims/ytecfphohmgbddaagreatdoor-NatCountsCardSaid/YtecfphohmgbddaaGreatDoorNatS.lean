/- walks of the reference: NatAdd, NatSub, NatCmp; of the law: first, natural -/
import Derived.Test.YtecfphohmgbddaaGreatDoorNatR
namespace Go.Proofs.YtecfphohmgbddaaGreatDoor
open Go.RowKit
set_option linter.unusedVariables false

/-- is a list of digits a number's canonical text reversed: what a valid text gives -/
def rdB (s : ByteArray) : List Nat := rd s.data.toList
theorem v10_rdB (s : ByteArray) : v10 (rdB s) = numB s := v10_rd _
theorem rdB_length (s : ByteArray) : (rdB s).length = s.size := by unfold rdB; rw [rd_length, bsz]

set_option maxHeartbeats 1600000 in
set_option maxRecDepth 100000 in
theorem rNatAdd_any (a b : ByteArray) (w : World) (ha : AllD a.data.toList) (hb : AllD b.data.toList) (hla : a.size ≤ 1000000) (hlb : b.size ≤ 1000000) :
    Calls Tryz.prog 20 #[.string a, .string b] w fun e w' => e = .returned (.string (decT (numB a + numB b))) ∧ Ext w w' := by
  obtain ⟨wo, rfl⟩ : ∃ wo : World, wo = w := ⟨_, rfl⟩
  have HA := Lib.hid (fun W k (hk : k ≤ 1000001) q hq => digit_any a k W (by omega) (by omega) ha q hq)
  have HB := Lib.hid (fun W k (hk : k ≤ 1000001) q hq => digit_any b k W (by omega) (by omega) hb q hq)
  have HDA := Lib.hid (rd_D9 ha)
  have HDB := Lib.hid (rd_D9 hb)
  have hl1 := rd_length a.data.toList
  have hl2 := rd_length b.data.toList
  rw [bsz] at hl1 hl2
  have HL1 := Lib.hid hl1
  have HL2 := Lib.hid hl2
  obtain ⟨S, hS⟩ : ∃ S, numB a + numB b = S := ⟨_, rfl⟩
  rw [hS]
  have hst := AddI.start (rd a.data.toList) (rd b.data.toList)
  rw [v10_rd, v10_rd] at hst
  have hst2 : AddI (rd a.data.toList) (rd b.data.toList) 0 0 [] S := by rw [← hS]; exact hst
  have HST := Lib.hid hst2
  generalize rd a.data.toList = da at *
  generalize rd b.data.toList = db at *
  clear hst hst2 ha hb hl1 hl2 hS
  have hlai : (a.size : Int) ≤ 1000000 := by omega
  have hlbi : (b.size : Int) ≤ 1000000 := by omega
  go_enter Tryz.func20, Tryz.ntmps20
  go_wp2_with fail
  go_loopw [5, 6, 7] (fun o cv iv wr => ∃ (i c : Nat) (out : List Nat), i ≤ 1000001 ∧ Hid (i ≤ max a.size b.size + (1 - c)) ∧ iv = .int .i64 i ∧ cv = .int .i64 c ∧ c ≤ 1 ∧ wr.ownsRow wo.heap.size 3 1 o i (out.map encI) ∧ Ext wo wr ∧ Hid (AddI da db i c out S)) (fun _ cv iv _ => 2 * (max a.size b.size - (intOf iv).toNat) + (intOf cv).toNat)
  case atStart => exact ⟨0, 0, [], Nat.zero_le _, Nat.zero_le _, rfl, rfl, Nat.zero_le _, World.ownsRow_nil _ _ _ _, Ext.refl _, HST.out⟩
  case round =>
    obtain ⟨i, c, out, hi, HM, rfl, rfl, hc, HO, X, HI⟩ := hrel
    have hci : (c : Int) ≤ 1 := by omega
    have hii : (i : Int) ≤ 1000001 := by omega
    have hsz := X.size
    by_cases hgo : i < a.size ∨ i < b.size ∨ 0 < c
    · have hi2 : i ≤ 1000000 := by have := HM.out; omega
      obtain ⟨x, hx⟩ : ∃ x, da.getD i 0 = x := ⟨_, rfl⟩
      obtain ⟨y, hy⟩ : ∃ y, db.getD i 0 = y := ⟨_, rfl⟩
      obtain ⟨z, hz⟩ : ∃ z, x + y + c = z := ⟨_, rfl⟩
      obtain ⟨hstep, hz19⟩ := HI.out.step HDA.out HDB.out (x := z) (by rw [hx, hy]; exact hz)
      have hx9 : x ≤ 9 := by rw [← hx]; exact getD_le HDA.out i
      have hy9 : y ≤ 9 := by rw [← hy]; exact getD_le HDB.out i
      have HAx := Lib.hid (fun W => HA.out W i (by omega) x hx)
      have HBy := Lib.hid (fun W => HB.out W i (by omega) y hy)
      obtain ⟨c2, hc2⟩ : ∃ c2, z / 10 = c2 := ⟨_, rfl⟩
      obtain ⟨r, hr⟩ : ∃ r, z % 10 = r := ⟨_, rfl⟩
      rw [hc2, hr] at hstep
      have HSTEP := Lib.hid hstep
      have hc21 : c2 ≤ 1 := by omega
      have hzi : (x : Int) + (y : Int) + (c : Int) = (z : Int) := by omega
      have hzl : (z : Int) ≤ 19 := by omega
      have e1 : (z : Int).tmod 10 = (r : Int) := by rw [← hr]; exact (Int.ofNat_tmod z 10).symm
      have e2 : (z : Int).tdiv 10 = (c2 : Int) := by rw [← hc2]; exact (Int.ofNat_tdiv z 10).symm
      have hxi : (x : Int) ≤ 9 := by omega
      have hyi : (y : Int) ≤ 9 := by omega
      have hmeas : Hid (i + 1 ≤ max a.size b.size + (1 - c2)) := by
        show _ ≤ _
        have hfin : i < max a.size b.size ∨ (max a.size b.size ≤ i ∧ c2 = 0) := by
          by_cases hm : i < max a.size b.size
          · exact .inl hm
          · refine .inr ⟨by omega, ?_⟩
            have hx0 : x = 0 := by
              rw [← hx, List.getD_eq_getElem?_getD, List.getElem?_eq_none (by rw [HL1.out]; omega)]; rfl
            have hy0 : y = 0 := by
              rw [← hy, List.getD_eq_getElem?_getD, List.getElem?_eq_none (by rw [HL2.out]; omega)]; rfl
            omega
        have := HM.out
        omega
      have hdec : Hid (2 * (max a.size b.size - (i + 1)) + c2 < 2 * (max a.size b.size - i) + c) := by
        show _ < _
        have := hmeas.out
        have := HM.out
        omega
      clear hstep hc2 hr hx hy hz19
      have hgo2 : i < a.size ∨ (a.size ≤ i ∧ i < b.size) ∨ (a.size ≤ i ∧ b.size ≤ i ∧ 0 < c) := by omega
      clear hgo
      rcases hgo2 with hg | ⟨hg0, hg⟩ | ⟨hg0, hg1, hg⟩
      · have hg2 : (i : Int) < (a.size : Int) := by omega
        clear hz
        go_wp2_with fail
        refine (HAx.out _).mono ?_
        rintro e w1 ⟨rfl, rfl⟩
        go_wp2_with fail
        refine (HBy.out _).mono ?_
        rintro e w2 ⟨rfl, rfl⟩
        go_wp2_with (at_builtin; refine wp_app1 (s := .tmp 34) (x := .tmp 37) (y := .int .i64 r) rfl rfl ei_ints' HO rfl rfl rfl rfl (by omega) (by omega) (by omega) ?_; intro v' w' hown hgrew)
        go_roundw
        case rel => exact ⟨i + 1, c2, out ++ [r], by omega, hmeas, by go_num, rfl, hc21, own_cast hown (by simp [encI]) rfl, hgrew.extNew X HO (Nat.le_refl _), HSTEP.out⟩
        case measure => have := hdec.out; simp [intOf]; omega
      · have hg02 : (a.size : Int) ≤ (i : Int) := by omega
        have hg2 : (i : Int) < (b.size : Int) := by omega
        clear hz
        go_wp2_with fail
        refine (HAx.out _).mono ?_
        rintro e w1 ⟨rfl, rfl⟩
        go_wp2_with fail
        refine (HBy.out _).mono ?_
        rintro e w2 ⟨rfl, rfl⟩
        go_wp2_with (at_builtin; refine wp_app1 (s := .tmp 34) (x := .tmp 37) (y := .int .i64 r) rfl rfl ei_ints' HO rfl rfl rfl rfl (by omega) (by omega) (by omega) ?_; intro v' w' hown hgrew)
        go_roundw
        case rel => exact ⟨i + 1, c2, out ++ [r], by omega, hmeas, by go_num, rfl, hc21, own_cast hown (by simp [encI]) rfl, hgrew.extNew X HO (Nat.le_refl _), HSTEP.out⟩
        case measure => have := hdec.out; simp [intOf]; omega
      · have hg02 : (a.size : Int) ≤ (i : Int) := by omega
        have hg12 : (b.size : Int) ≤ (i : Int) := by omega
        have hg2 : (0 : Int) < (c : Int) := by omega
        clear hz
        go_wp2_with fail
        refine (HAx.out _).mono ?_
        rintro e w1 ⟨rfl, rfl⟩
        go_wp2_with fail
        refine (HBy.out _).mono ?_
        rintro e w2 ⟨rfl, rfl⟩
        go_wp2_with (at_builtin; refine wp_app1 (s := .tmp 34) (x := .tmp 37) (y := .int .i64 r) rfl rfl ei_ints' HO rfl rfl rfl rfl (by omega) (by omega) (by omega) ?_; intro v' w' hown hgrew)
        go_roundw
        case rel => exact ⟨i + 1, c2, out ++ [r], by omega, hmeas, by go_num, rfl, hc21, own_cast hown (by simp [encI]) rfl, hgrew.extNew X HO (Nat.le_refl _), HSTEP.out⟩
        case measure => have := hdec.out; simp [intOf]; omega
    · have hg0 : (a.size : Int) ≤ (i : Int) := by omega
      have hg1 : (b.size : Int) ≤ (i : Int) := by omega
      have hc0 : c = 0 := by omega
      subst hc0
      have hv := HI.out.stop (by rw [HL1.out]; omega) (by rw [HL2.out]; omega)
      have hol := HI.out.1
      have hod := HI.out.2.1
      have HT := Lib.hid (dtext_any _ out wr (own_rowOf (enc := encI) HO (by omega)) hod (by omega))
      rw [hv] at HT
      clear hgo hv hol hod
      go_wp2_with fail
      refine HT.out.mono ?_
      rintro e w1 ⟨rfl, X1⟩
      go_wp2_with fail
      go_ret
      exact ⟨rfl, X.trans X1⟩

set_option maxHeartbeats 1600000 in
set_option maxRecDepth 100000 in
theorem rNatSub_any (a b : ByteArray) (w : World) (ha : AllD a.data.toList) (hb : AllD b.data.toList) (hla : a.size ≤ 1000000) (hlb : b.size ≤ 1000000) (hle : numB b ≤ numB a) :
    Calls Tryz.prog 22 #[.string a, .string b] w fun e w' => e = .returned (.string (decT (numB a - numB b))) ∧ Ext w w' := by
  obtain ⟨wo, rfl⟩ : ∃ wo : World, wo = w := ⟨_, rfl⟩
  have HA := Lib.hid (fun W k (hk : k ≤ 1000001) q hq => digit_any a k W (by omega) (by omega) ha q hq)
  have HB := Lib.hid (fun W k (hk : k ≤ 1000001) q hq => digit_any b k W (by omega) (by omega) hb q hq)
  have HDA := Lib.hid (rd_D9 ha)
  have HDB := Lib.hid (rd_D9 hb)
  have hl1 := rd_length a.data.toList
  rw [bsz] at hl1
  have HL1 := Lib.hid hl1
  rw [← v10_rdB, ← v10_rdB] at hle ⊢
  unfold rdB at hle ⊢
  have HST := Lib.hid (SubI.start (rd a.data.toList) (rd b.data.toList))
  generalize rd a.data.toList = da at *
  generalize rd b.data.toList = db at *
  have HLE := Lib.hid hle
  clear ha hb hl1 hle
  have hlai : (a.size : Int) ≤ 1000000 := by omega
  go_enter Tryz.func22, Tryz.ntmps22
  go_wp2_with fail
  go_loopw [5, 6, 11] (fun o cv iv wr => ∃ (i c : Nat) (out : List Nat), i ≤ a.size ∧ iv = .int .i64 i ∧ cv = .int .i64 c ∧ c ≤ 1 ∧ wr.ownsRow wo.heap.size 3 1 o i (out.map encI) ∧ Ext wo wr ∧ Hid (SubI da db i c out)) (fun _ _ iv _ => a.size - (intOf iv).toNat)
  case atStart => exact ⟨0, 0, [], Nat.zero_le _, rfl, rfl, Nat.zero_le _, World.ownsRow_nil _ _ _ _, Ext.refl _, HST.out⟩
  case round =>
    obtain ⟨i, c, out, hi, rfl, rfl, hc, HO, X, HI⟩ := hrel
    have hci : (c : Int) ≤ 1 := by omega
    have hsz := X.size
    by_cases hlt : i < a.size
    · have hki : (i : Int) < (a.size : Int) := by omega
      obtain ⟨x, hx⟩ : ∃ x, da.getD i 0 = x := ⟨_, rfl⟩
      obtain ⟨y, hy⟩ : ∃ y, db.getD i 0 = y := ⟨_, rfl⟩
      have hx9 : x ≤ 9 := by rw [← hx]; exact getD_le HDA.out i
      have hy9 : y ≤ 9 := by rw [← hy]; exact getD_le HDB.out i
      have HAx := Lib.hid (fun W => HA.out W i (by omega) x hx)
      have HBy := Lib.hid (fun W => HB.out W i (by omega) y hy)
      have hxi : (x : Int) ≤ 9 := by omega
      have hyi : (y : Int) ≤ 9 := by omega
      by_cases hneg : x < y + c
      · obtain ⟨d, hd⟩ : ∃ d, x + 10 - y - c = d := ⟨_, rfl⟩
        have hdi : (x : Int) - (y : Int) - (c : Int) + 10 = (d : Int) := by omega
        have hlz : (x : Int) - (y : Int) - (c : Int) < 0 := by omega
        have hstep := HI.out.step (d := d) (c2 := 1) (by omega) (by omega) (by rw [hx, hy]; omega)
        have HSTEP := Lib.hid hstep
        clear hstep hd hx hy hneg
        go_wp2_with fail
        refine (HAx.out _).mono ?_
        rintro e w1 ⟨rfl, rfl⟩
        go_wp2_with fail
        refine (HBy.out _).mono ?_
        rintro e w2 ⟨rfl, rfl⟩
        go_wp2_with (at_builtin; refine wp_app1 (s := .tmp 27) (x := .tmp 29) (y := .int .i64 d) rfl rfl ei_ints' HO rfl rfl rfl rfl (by omega) (by omega) (by omega) ?_; intro v' w' hown hgrew)
        go_roundw
        case rel => exact ⟨i + 1, 1, out ++ [d], by omega, by go_num, rfl, by omega, own_cast hown (by simp [encI]) rfl, hgrew.extNew X HO (Nat.le_refl _), HSTEP.out⟩
        case measure => simp [intOf]; omega
      · obtain ⟨d, hd⟩ : ∃ d, x - y - c = d := ⟨_, rfl⟩
        have hdi : (x : Int) - (y : Int) - (c : Int) = (d : Int) := by omega
        have hdl : (d : Int) ≤ 9 := by omega
        have hstep := HI.out.step (d := d) (c2 := 0) (by omega) (by omega) (by rw [hx, hy]; omega)
        have HSTEP := Lib.hid hstep
        clear hstep hd hx hy hneg
        go_wp2_with fail
        refine (HAx.out _).mono ?_
        rintro e w1 ⟨rfl, rfl⟩
        go_wp2_with fail
        refine (HBy.out _).mono ?_
        rintro e w2 ⟨rfl, rfl⟩
        go_wp2_with (at_builtin; refine wp_app1 (s := .tmp 27) (x := .tmp 29) (y := .int .i64 d) rfl rfl ei_ints' HO rfl rfl rfl rfl (by omega) (by omega) (by omega) ?_; intro v' w' hown hgrew)
        go_roundw
        case rel => exact ⟨i + 1, 0, out ++ [d], by omega, by go_num, rfl, by omega, own_cast hown (by simp [encI]) rfl, hgrew.extNew X HO (Nat.le_refl _), HSTEP.out⟩
        case measure => simp [intOf]; omega
    · have hil : i = a.size := by omega
      subst hil
      have hv := HI.out.stop HL1.out HLE.out
      have hol := HI.out.1
      have hod := HI.out.2.1
      have HT := Lib.hid (dtext_any _ out wr (own_rowOf (enc := encI) HO (by omega)) hod (by omega))
      rw [hv] at HT
      clear hlt hv hol hod
      go_wp2_with fail
      refine HT.out.mono ?_
      rintro e w1 ⟨rfl, X1⟩
      go_wp2_with fail
      go_ret
      exact ⟨rfl, X.trans X1⟩
end Go.Proofs.YtecfphohmgbddaaGreatDoor
