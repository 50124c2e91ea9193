/- the walk of DealCombines -/
import Derived.Test.YtllhgkacbpgemaaDealF
namespace Go.Proofs.Ytllhgkacbpgemaa
open Go.RowKit

theorem firstErr_cons (n : Int) (x : List Int) (xs : List (List Int)) (T : Int) (h : firstErr n (x :: xs) = T) : (drawsErr n x = 0 ∧ firstErr n xs = T) ∨ (drawsErr n x ≠ 0 ∧ drawsErr n x = T) := by
  simp only [firstErr] at h
  split at h
  · exact .inr ⟨‹_›, h⟩
  · rename_i h1
    exact .inl ⟨by simpa using h1, h⟩

set_option maxHeartbeats 2000000 in
set_option maxRecDepth 100000 in
theorem dealCombines_neg (n : Int) (s : Int) (v : Value) (xss : List (List Int)) (w : World) (hv : Rows (Value.int .i64) w v xss) (hb : ∀ x ∈ xss, x.length + 2 ≤ 17592186044416) (hn : -9223372036854775808 ≤ n ∧ n ≤ 9223372036854775807) (h : n < 0) :
    Calls Try.prog 5 #[.int .i64 n, v, .int .i64 s] w fun e w' => e = .returned (.bool true) ∧ Ext w w' := by
  obtain ⟨T, hT⟩ : ∃ T, combErr n xss = T := ⟨_, rfl⟩
  have hv4 : combErr n xss = 4 := by simp [combErr, h]
  have hT4 : Hid (4 = T) := hv4.symm.trans hT
  have hT1 : Hid ((T != 0) = true) := by rw [← hT4.out]; rfl
  have hne : combErr n xss ≠ 0 := by rw [hv4]; decide
  have HCE := fun (W : World) (hW : Rows (Value.int .i64) W v xss) => combine_err n v xss W hW (by omega) hne
  rw [hT] at HCE
  have HCE := Lib.hid HCE
  have hlx : Hid (xss.length = xss.length) := rfl
  clear hne hv4 hT
  obtain ⟨us, ⟨ao, c, rfl, _, hlen, _, hc⟩, hl, hr⟩ := hv
  have HC := Lib.hid hc; have HR := Lib.hid hr; have HL := Lib.hid hl; have HB := Lib.hid hb
  have HF := Lib.hid (dealFact_any w)
  clear hc hr hl hb
  go_enter Try.func5, Try.ntmps5
  go_wp2_with fail
  refine HF.out.mono ?_
  rintro e w0 ⟨rfl, hx0⟩
  go_wp2_with fail
  go_loopw [22] (fun i wr => ∃ k : Nat, k ≤ us.length ∧ i = .int .i64 k ∧ Ext w wr) (fun i _ => us.length - (intOf i).toNat)
  case atStart => exact ⟨0, Nat.zero_le _, rfl, hx0⟩
  case round =>
    obtain ⟨k, hk, rfl, HX⟩ := hrel
    by_cases hlt : k < us.length
    · obtain ⟨u, h1, _, _⟩ := get_lt hlt
      obtain ⟨x, g1, _, _⟩ := get_lt (xs := xss) (k := k) (by rw [← HL.out]; exact hlt)
      obtain ⟨b, off, rfl, hcell0⟩ := HC.out k u h1.out
      have hcell := HX.cell hcell0
      clear hcell0
      have hrow := Lib.hid ((HR.out k u x h1.out g1.out).ext HX)
      have hbx := HB.out x (List.mem_of_getElem? g1.out)
      obtain ⟨z, hz⟩ : ∃ z, Hid (sealF x s = z) := ⟨_, rfl⟩
      have HS := fun (W : World) (hW : Ext wr W) => seal_any u x s W (hrow.out.ext hW) hbx
      have HS2 := fun (W : World) (hW : Ext wr W) => sealOf_any u x s W (hrow.out.ext hW) hbx
      rw [hz.out] at HS HS2
      have HS := Lib.hid HS; have HS2 := Lib.hid HS2
      clear hbx
      go_wp2_with fail
      refine (HS.out _ (Ext.refl _)).mono ?_
      rintro e w1 ⟨rfl, hx1⟩
      go_wp2_with fail
      refine (HS2.out _ (by exact hx1)).mono ?_
      rintro e w2 ⟨rfl, hx2⟩
      go_wp2_with fail
      go_roundw
      case rel => exact ⟨k + 1, by omega, by go_num, HX.trans (hx1.trans hx2)⟩
      case measure => simp [intOf]; omega
    · obtain ⟨wo, rfl⟩ : ∃ wo : World, wo = wr := ⟨_, rfl⟩
      have HR2 : Rows (Value.int .i64) wo (.slice ao us.length c) xss := ⟨us, ⟨ao, c, rfl, ‹_›, hlen, ‹_›, HC.out.ext HX⟩, HL.out, fun i u xs a b => (HR.out i u xs a b).ext HX⟩
      have HR2 := Lib.hid HR2
      go_wp2_with fail
      refine (HCE.out _ HR2.out).mono ?_
      rintro e w3 ⟨rfl, rfl⟩
      have HX2 := HX
      go_wp2_with fail
      go_loop [11, 55] (fun q i => ∃ (k : Nat) (m : Int), k ≤ us.length ∧ i = .int .i64 k ∧ q = .int .i64 m ∧ Hid ((m = 0 ∧ firstErr n (xss.drop k) = T) ∨ (m ≠ 0 ∧ m = T))) (fun _ i => us.length - (intOf i).toNat)
      case atStart => exact ⟨0, 4, Nat.zero_le _, rfl, rfl, .inr ⟨by decide, hT4.out⟩⟩
      case round =>
        obtain ⟨k, m, hk, rfl, rfl, HI⟩ := hrel
        by_cases hlt : k < us.length
        · obtain ⟨u, h1, _, _⟩ := get_lt hlt
          obtain ⟨x, g1, g2, _⟩ := get_lt (xs := xss) (k := k) (by rw [← HL.out]; exact hlt)
          obtain ⟨b, off, rfl, hcell0⟩ := HC.out k u h1.out
          have hcell := HX2.cell hcell0
          clear hcell0
          have hrow := Lib.hid ((HR.out k u x h1.out g1.out).ext HX2)
          rcases HI.out with ⟨rfl, h2⟩ | ⟨h2, h3⟩
          · rw [g2.out] at h2
            obtain ⟨z, hz⟩ : ∃ z, Hid (drawsErr n x = z) := ⟨_, rfl⟩
            have HE := fun W (hW : Ints W u x) => drawsError_any n u x W hW (by omega)
            rw [hz.out] at HE
            have HE := Lib.hid HE
            have h4 := firstErr_cons n x _ T h2
            rw [hz.out] at h4
            have H4 := Lib.hid h4
            clear h2 h4
            go_wp2_with fail
            refine (HE.out _ hrow.out).mono ?_
            rintro e w4 ⟨rfl, rfl⟩
            go_wp2_with fail
            go_round
            case rel => exact ⟨k + 1, z, by omega, by go_num, rfl, H4.out⟩
            case measure => simp [intOf]; omega
          · have h5 : (m == 0) = false := by simp [h2]
            have H2 := Lib.hid h2; have H3 := Lib.hid h3
            clear h2 h3
            go_wp2_with fail
            go_round
            case rel => exact ⟨k + 1, m, by omega, by go_num, rfl, .inr ⟨H2.out, H3.out⟩⟩
            case measure => simp [intOf]; omega
        · obtain ⟨h1, _⟩ := get_ge (xs := xss) (k := k) (by rw [← HL.out]; exact hlt)
          have hm : m = T := by
            rcases HI.out with ⟨rfl, h2⟩ | ⟨_, h2⟩
            · rw [h1.out] at h2; exact h2
            · exact h2
          subst hm
          have hm1 : (m != 0) = true := hT1.out
          have hm2 : (m == m) = true := by simp
          clear HI
          go_wp2_with fail
          go_ret
          exact ⟨rfl, HX2⟩


set_option maxHeartbeats 2000000 in
set_option maxRecDepth 100000 in
theorem dealCombines_great (n : Int) (s : Int) (v : Value) (xss : List (List Int)) (w : World) (hv : Rows (Value.int .i64) w v xss) (hb : ∀ x ∈ xss, x.length + 2 ≤ 17592186044416) (hn : -9223372036854775808 ≤ n ∧ n ≤ 9223372036854775807) (h : 52 < n) :
    Calls Try.prog 5 #[.int .i64 n, v, .int .i64 s] w fun e w' => e = .returned (.bool true) ∧ Ext w w' := by
  obtain ⟨T, hT⟩ : ∃ T, combErr n xss = T := ⟨_, rfl⟩
  have hv4 : combErr n xss = 4 := by simp [combErr, h]
  have hT4 : Hid (4 = T) := hv4.symm.trans hT
  have hT1 : Hid ((T != 0) = true) := by rw [← hT4.out]; rfl
  have hne : combErr n xss ≠ 0 := by rw [hv4]; decide
  have HCE := fun (W : World) (hW : Rows (Value.int .i64) W v xss) => combine_err n v xss W hW (by omega) hne
  rw [hT] at HCE
  have HCE := Lib.hid HCE
  have hlx : Hid (xss.length = xss.length) := rfl
  clear hne hv4 hT
  obtain ⟨us, ⟨ao, c, rfl, _, hlen, _, hc⟩, hl, hr⟩ := hv
  have HC := Lib.hid hc; have HR := Lib.hid hr; have HL := Lib.hid hl; have HB := Lib.hid hb
  have HF := Lib.hid (dealFact_any w)
  clear hc hr hl hb
  go_enter Try.func5, Try.ntmps5
  go_wp2_with fail
  refine HF.out.mono ?_
  rintro e w0 ⟨rfl, hx0⟩
  go_wp2_with fail
  go_loopw [22] (fun i wr => ∃ k : Nat, k ≤ us.length ∧ i = .int .i64 k ∧ Ext w wr) (fun i _ => us.length - (intOf i).toNat)
  case atStart => exact ⟨0, Nat.zero_le _, rfl, hx0⟩
  case round =>
    obtain ⟨k, hk, rfl, HX⟩ := hrel
    by_cases hlt : k < us.length
    · obtain ⟨u, h1, _, _⟩ := get_lt hlt
      obtain ⟨x, g1, _, _⟩ := get_lt (xs := xss) (k := k) (by rw [← HL.out]; exact hlt)
      obtain ⟨b, off, rfl, hcell0⟩ := HC.out k u h1.out
      have hcell := HX.cell hcell0
      clear hcell0
      have hrow := Lib.hid ((HR.out k u x h1.out g1.out).ext HX)
      have hbx := HB.out x (List.mem_of_getElem? g1.out)
      obtain ⟨z, hz⟩ : ∃ z, Hid (sealF x s = z) := ⟨_, rfl⟩
      have HS := fun (W : World) (hW : Ext wr W) => seal_any u x s W (hrow.out.ext hW) hbx
      have HS2 := fun (W : World) (hW : Ext wr W) => sealOf_any u x s W (hrow.out.ext hW) hbx
      rw [hz.out] at HS HS2
      have HS := Lib.hid HS; have HS2 := Lib.hid HS2
      clear hbx
      go_wp2_with fail
      refine (HS.out _ (Ext.refl _)).mono ?_
      rintro e w1 ⟨rfl, hx1⟩
      go_wp2_with fail
      refine (HS2.out _ (by exact hx1)).mono ?_
      rintro e w2 ⟨rfl, hx2⟩
      go_wp2_with fail
      go_roundw
      case rel => exact ⟨k + 1, by omega, by go_num, HX.trans (hx1.trans hx2)⟩
      case measure => simp [intOf]; omega
    · obtain ⟨wo, rfl⟩ : ∃ wo : World, wo = wr := ⟨_, rfl⟩
      have HR2 : Rows (Value.int .i64) wo (.slice ao us.length c) xss := ⟨us, ⟨ao, c, rfl, ‹_›, hlen, ‹_›, HC.out.ext HX⟩, HL.out, fun i u xs a b => (HR.out i u xs a b).ext HX⟩
      have HR2 := Lib.hid HR2
      go_wp2_with fail
      refine (HCE.out _ HR2.out).mono ?_
      rintro e w3 ⟨rfl, rfl⟩
      have HX2 := HX
      go_wp2_with fail
      go_loop [11, 55] (fun q i => ∃ (k : Nat) (m : Int), k ≤ us.length ∧ i = .int .i64 k ∧ q = .int .i64 m ∧ Hid ((m = 0 ∧ firstErr n (xss.drop k) = T) ∨ (m ≠ 0 ∧ m = T))) (fun _ i => us.length - (intOf i).toNat)
      case atStart => exact ⟨0, 4, Nat.zero_le _, rfl, rfl, .inr ⟨by decide, hT4.out⟩⟩
      case round =>
        obtain ⟨k, m, hk, rfl, rfl, HI⟩ := hrel
        by_cases hlt : k < us.length
        · obtain ⟨u, h1, _, _⟩ := get_lt hlt
          obtain ⟨x, g1, g2, _⟩ := get_lt (xs := xss) (k := k) (by rw [← HL.out]; exact hlt)
          obtain ⟨b, off, rfl, hcell0⟩ := HC.out k u h1.out
          have hcell := HX2.cell hcell0
          clear hcell0
          have hrow := Lib.hid ((HR.out k u x h1.out g1.out).ext HX2)
          rcases HI.out with ⟨rfl, h2⟩ | ⟨h2, h3⟩
          · rw [g2.out] at h2
            obtain ⟨z, hz⟩ : ∃ z, Hid (drawsErr n x = z) := ⟨_, rfl⟩
            have HE := fun W (hW : Ints W u x) => drawsError_any n u x W hW (by omega)
            rw [hz.out] at HE
            have HE := Lib.hid HE
            have h4 := firstErr_cons n x _ T h2
            rw [hz.out] at h4
            have H4 := Lib.hid h4
            clear h2 h4
            go_wp2_with fail
            refine (HE.out _ hrow.out).mono ?_
            rintro e w4 ⟨rfl, rfl⟩
            go_wp2_with fail
            go_round
            case rel => exact ⟨k + 1, z, by omega, by go_num, rfl, H4.out⟩
            case measure => simp [intOf]; omega
          · have h5 : (m == 0) = false := by simp [h2]
            have H2 := Lib.hid h2; have H3 := Lib.hid h3
            clear h2 h3
            go_wp2_with fail
            go_round
            case rel => exact ⟨k + 1, m, by omega, by go_num, rfl, .inr ⟨H2.out, H3.out⟩⟩
            case measure => simp [intOf]; omega
        · obtain ⟨h1, _⟩ := get_ge (xs := xss) (k := k) (by rw [← HL.out]; exact hlt)
          have hm : m = T := by
            rcases HI.out with ⟨rfl, h2⟩ | ⟨_, h2⟩
            · rw [h1.out] at h2; exact h2
            · exact h2
          subst hm
          have hm1 : (m != 0) = true := hT1.out
          have hm2 : (m == m) = true := by simp
          clear HI
          go_wp2_with fail
          go_ret
          exact ⟨rfl, HX2⟩


set_option maxHeartbeats 2000000 in
set_option maxRecDepth 100000 in
theorem dealCombines_many (n : Int) (s : Int) (v : Value) (xss : List (List Int)) (w : World) (hv : Rows (Value.int .i64) w v xss) (hb : ∀ x ∈ xss, x.length + 2 ≤ 17592186044416) (hn : -9223372036854775808 ≤ n ∧ n ≤ 9223372036854775807) (h0 : 0 ≤ n) (h1 : n ≤ 52) (h : 6 < xss.length) :
    Calls Try.prog 5 #[.int .i64 n, v, .int .i64 s] w fun e w' => e = .returned (.bool true) ∧ Ext w w' := by
  obtain ⟨T, hT⟩ : ∃ T, combErr n xss = T := ⟨_, rfl⟩
  have hv4 : combErr n xss = 2 := by rw [combErr, if_neg (by omega), if_pos h]
  have hT4 : Hid (2 = T) := hv4.symm.trans hT
  have hT1 : Hid ((T != 0) = true) := by rw [← hT4.out]; rfl
  have hne : combErr n xss ≠ 0 := by rw [hv4]; decide
  have HCE := fun (W : World) (hW : Rows (Value.int .i64) W v xss) => combine_err n v xss W hW (by omega) hne
  rw [hT] at HCE
  have HCE := Lib.hid HCE
  have hlx : Hid (xss.length = xss.length) := rfl
  clear hne hv4 hT
  have hxl : 6 < xss.length := h
  clear h
  obtain ⟨us, ⟨ao, c, rfl, _, hlen, _, hc⟩, hl, hr⟩ := hv
  have HC := Lib.hid hc; have HR := Lib.hid hr; have HL := Lib.hid hl; have HB := Lib.hid hb
  have hul : 6 < us.length := by rw [HL.out]; exact hxl
  have hulB : decide (6 < us.length) = true := by simp; omega
  have hulC : decide ((6 : Int) < (us.length : Int)) = true := by simp; omega
  have HF := Lib.hid (dealFact_any w)
  clear hc hr hl hb
  go_enter Try.func5, Try.ntmps5
  go_wp2_with fail
  refine HF.out.mono ?_
  rintro e w0 ⟨rfl, hx0⟩
  go_wp2_with fail
  go_loopw [22] (fun i wr => ∃ k : Nat, k ≤ us.length ∧ i = .int .i64 k ∧ Ext w wr) (fun i _ => us.length - (intOf i).toNat)
  case atStart => exact ⟨0, Nat.zero_le _, rfl, hx0⟩
  case round =>
    obtain ⟨k, hk, rfl, HX⟩ := hrel
    by_cases hlt : k < us.length
    · obtain ⟨u, h1, _, _⟩ := get_lt hlt
      obtain ⟨x, g1, _, _⟩ := get_lt (xs := xss) (k := k) (by rw [← HL.out]; exact hlt)
      obtain ⟨b, off, rfl, hcell0⟩ := HC.out k u h1.out
      have hcell := HX.cell hcell0
      clear hcell0
      have hrow := Lib.hid ((HR.out k u x h1.out g1.out).ext HX)
      have hbx := HB.out x (List.mem_of_getElem? g1.out)
      obtain ⟨z, hz⟩ : ∃ z, Hid (sealF x s = z) := ⟨_, rfl⟩
      have HS := fun (W : World) (hW : Ext wr W) => seal_any u x s W (hrow.out.ext hW) hbx
      have HS2 := fun (W : World) (hW : Ext wr W) => sealOf_any u x s W (hrow.out.ext hW) hbx
      rw [hz.out] at HS HS2
      have HS := Lib.hid HS; have HS2 := Lib.hid HS2
      clear hbx
      go_wp2_with fail
      refine (HS.out _ (Ext.refl _)).mono ?_
      rintro e w1 ⟨rfl, hx1⟩
      go_wp2_with fail
      refine (HS2.out _ (by exact hx1)).mono ?_
      rintro e w2 ⟨rfl, hx2⟩
      go_wp2_with fail
      go_roundw
      case rel => exact ⟨k + 1, by omega, by go_num, HX.trans (hx1.trans hx2)⟩
      case measure => simp [intOf]; omega
    · obtain ⟨wo, rfl⟩ : ∃ wo : World, wo = wr := ⟨_, rfl⟩
      have HR2 : Rows (Value.int .i64) wo (.slice ao us.length c) xss := ⟨us, ⟨ao, c, rfl, ‹_›, hlen, ‹_›, HC.out.ext HX⟩, HL.out, fun i u xs a b => (HR.out i u xs a b).ext HX⟩
      have HR2 := Lib.hid HR2
      go_wp2_with fail
      refine (HCE.out _ HR2.out).mono ?_
      rintro e w3 ⟨rfl, rfl⟩
      have HX2 := HX
      go_wp2_with fail
      go_loop [11, 55] (fun q i => ∃ (k : Nat) (m : Int), k ≤ us.length ∧ i = .int .i64 k ∧ q = .int .i64 m ∧ Hid ((m = 0 ∧ firstErr n (xss.drop k) = T) ∨ (m ≠ 0 ∧ m = T))) (fun _ i => us.length - (intOf i).toNat)
      case atStart => exact ⟨0, 2, Nat.zero_le _, rfl, rfl, .inr ⟨by decide, hT4.out⟩⟩
      case round =>
        obtain ⟨k, m, hk, rfl, rfl, HI⟩ := hrel
        by_cases hlt : k < us.length
        · obtain ⟨u, h1, _, _⟩ := get_lt hlt
          obtain ⟨x, g1, g2, _⟩ := get_lt (xs := xss) (k := k) (by rw [← HL.out]; exact hlt)
          obtain ⟨b, off, rfl, hcell0⟩ := HC.out k u h1.out
          have hcell := HX2.cell hcell0
          clear hcell0
          have hrow := Lib.hid ((HR.out k u x h1.out g1.out).ext HX2)
          rcases HI.out with ⟨rfl, h2⟩ | ⟨h2, h3⟩
          · rw [g2.out] at h2
            obtain ⟨z, hz⟩ : ∃ z, Hid (drawsErr n x = z) := ⟨_, rfl⟩
            have HE := fun W (hW : Ints W u x) => drawsError_any n u x W hW (by omega)
            rw [hz.out] at HE
            have HE := Lib.hid HE
            have h4 := firstErr_cons n x _ T h2
            rw [hz.out] at h4
            have H4 := Lib.hid h4
            clear h2 h4
            go_wp2_with fail
            refine (HE.out _ hrow.out).mono ?_
            rintro e w4 ⟨rfl, rfl⟩
            go_wp2_with fail
            go_round
            case rel => exact ⟨k + 1, z, by omega, by go_num, rfl, H4.out⟩
            case measure => simp [intOf]; omega
          · have h5 : (m == 0) = false := by simp [h2]
            have H2 := Lib.hid h2; have H3 := Lib.hid h3
            clear h2 h3
            go_wp2_with fail
            go_round
            case rel => exact ⟨k + 1, m, by omega, by go_num, rfl, .inr ⟨H2.out, H3.out⟩⟩
            case measure => simp [intOf]; omega
        · obtain ⟨h1, _⟩ := get_ge (xs := xss) (k := k) (by rw [← HL.out]; exact hlt)
          have hm : m = T := by
            rcases HI.out with ⟨rfl, h2⟩ | ⟨_, h2⟩
            · rw [h1.out] at h2; exact h2
            · exact h2
          subst hm
          have hm1 : (m != 0) = true := hT1.out
          have hm2 : (m == m) = true := by simp
          clear HI
          go_wp2_with fail
          go_ret
          exact ⟨rfl, HX2⟩


set_option maxHeartbeats 2000000 in
set_option maxRecDepth 100000 in
theorem dealCombines_first (n : Int) (s : Int) (v : Value) (xss : List (List Int)) (w : World) (hv : Rows (Value.int .i64) w v xss) (hb : ∀ x ∈ xss, x.length + 2 ≤ 17592186044416) (hn : -9223372036854775808 ≤ n ∧ n ≤ 9223372036854775807) (h0 : 0 ≤ n) (h1 : n ≤ 52) (h : xss.length ≤ 6) (hf : firstErr n xss ≠ 0) :
    Calls Try.prog 5 #[.int .i64 n, v, .int .i64 s] w fun e w' => e = .returned (.bool true) ∧ Ext w w' := by
  obtain ⟨T, hT⟩ : ∃ T, combErr n xss = T := ⟨_, rfl⟩
  have hv4 : combErr n xss = firstErr n xss := by rw [combErr, if_neg (by omega), if_neg (by omega)]
  have hT4 : Hid (firstErr n xss = T) := hv4.symm.trans hT
  have hT1 : Hid ((T != 0) = true) := by rw [← hT4.out]; simpa [Hid] using hf
  have hne : combErr n xss ≠ 0 := by rw [hv4]; exact hf
  clear hf
  have HCE := fun (W : World) (hW : Rows (Value.int .i64) W v xss) => combine_err n v xss W hW (by omega) hne
  rw [hT] at HCE
  have HCE := Lib.hid HCE
  have hlx : Hid (xss.length = xss.length) := rfl
  clear hne hv4 hT
  have hxl : xss.length ≤ 6 := h
  clear h
  obtain ⟨us, ⟨ao, c, rfl, _, hlen, _, hc⟩, hl, hr⟩ := hv
  have HC := Lib.hid hc; have HR := Lib.hid hr; have HL := Lib.hid hl; have HB := Lib.hid hb
  have hul : us.length ≤ 6 := by rw [HL.out]; exact hxl
  have hulB : decide (6 < us.length) = false := by simp; omega
  have hulC : decide ((6 : Int) < (us.length : Int)) = false := by simp; omega
  have HF := Lib.hid (dealFact_any w)
  clear hc hr hl hb
  go_enter Try.func5, Try.ntmps5
  go_wp2_with fail
  refine HF.out.mono ?_
  rintro e w0 ⟨rfl, hx0⟩
  go_wp2_with fail
  go_loopw [22] (fun i wr => ∃ k : Nat, k ≤ us.length ∧ i = .int .i64 k ∧ Ext w wr) (fun i _ => us.length - (intOf i).toNat)
  case atStart => exact ⟨0, Nat.zero_le _, rfl, hx0⟩
  case round =>
    obtain ⟨k, hk, rfl, HX⟩ := hrel
    by_cases hlt : k < us.length
    · obtain ⟨u, h1, _, _⟩ := get_lt hlt
      obtain ⟨x, g1, _, _⟩ := get_lt (xs := xss) (k := k) (by rw [← HL.out]; exact hlt)
      obtain ⟨b, off, rfl, hcell0⟩ := HC.out k u h1.out
      have hcell := HX.cell hcell0
      clear hcell0
      have hrow := Lib.hid ((HR.out k u x h1.out g1.out).ext HX)
      have hbx := HB.out x (List.mem_of_getElem? g1.out)
      obtain ⟨z, hz⟩ : ∃ z, Hid (sealF x s = z) := ⟨_, rfl⟩
      have HS := fun (W : World) (hW : Ext wr W) => seal_any u x s W (hrow.out.ext hW) hbx
      have HS2 := fun (W : World) (hW : Ext wr W) => sealOf_any u x s W (hrow.out.ext hW) hbx
      rw [hz.out] at HS HS2
      have HS := Lib.hid HS; have HS2 := Lib.hid HS2
      clear hbx
      go_wp2_with fail
      refine (HS.out _ (Ext.refl _)).mono ?_
      rintro e w1 ⟨rfl, hx1⟩
      go_wp2_with fail
      refine (HS2.out _ (by exact hx1)).mono ?_
      rintro e w2 ⟨rfl, hx2⟩
      go_wp2_with fail
      go_roundw
      case rel => exact ⟨k + 1, by omega, by go_num, HX.trans (hx1.trans hx2)⟩
      case measure => simp [intOf]; omega
    · obtain ⟨wo, rfl⟩ : ∃ wo : World, wo = wr := ⟨_, rfl⟩
      have HR2 : Rows (Value.int .i64) wo (.slice ao us.length c) xss := ⟨us, ⟨ao, c, rfl, ‹_›, hlen, ‹_›, HC.out.ext HX⟩, HL.out, fun i u xs a b => (HR.out i u xs a b).ext HX⟩
      have HR2 := Lib.hid HR2
      go_wp2_with fail
      refine (HCE.out _ HR2.out).mono ?_
      rintro e w3 ⟨rfl, rfl⟩
      have HX2 := HX
      go_wp2_with fail
      go_loop [11, 55] (fun q i => ∃ (k : Nat) (m : Int), k ≤ us.length ∧ i = .int .i64 k ∧ q = .int .i64 m ∧ Hid ((m = 0 ∧ firstErr n (xss.drop k) = T) ∨ (m ≠ 0 ∧ m = T))) (fun _ i => us.length - (intOf i).toNat)
      case atStart => exact ⟨0, 0, Nat.zero_le _, rfl, rfl, .inl ⟨rfl, hT4.out⟩⟩
      case round =>
        obtain ⟨k, m, hk, rfl, rfl, HI⟩ := hrel
        by_cases hlt : k < us.length
        · obtain ⟨u, h1, _, _⟩ := get_lt hlt
          obtain ⟨x, g1, g2, _⟩ := get_lt (xs := xss) (k := k) (by rw [← HL.out]; exact hlt)
          obtain ⟨b, off, rfl, hcell0⟩ := HC.out k u h1.out
          have hcell := HX2.cell hcell0
          clear hcell0
          have hrow := Lib.hid ((HR.out k u x h1.out g1.out).ext HX2)
          rcases HI.out with ⟨rfl, h2⟩ | ⟨h2, h3⟩
          · rw [g2.out] at h2
            obtain ⟨z, hz⟩ : ∃ z, Hid (drawsErr n x = z) := ⟨_, rfl⟩
            have HE := fun W (hW : Ints W u x) => drawsError_any n u x W hW (by omega)
            rw [hz.out] at HE
            have HE := Lib.hid HE
            have h4 := firstErr_cons n x _ T h2
            rw [hz.out] at h4
            have H4 := Lib.hid h4
            clear h2 h4
            go_wp2_with fail
            refine (HE.out _ hrow.out).mono ?_
            rintro e w4 ⟨rfl, rfl⟩
            go_wp2_with fail
            go_round
            case rel => exact ⟨k + 1, z, by omega, by go_num, rfl, H4.out⟩
            case measure => simp [intOf]; omega
          · have h5 : (m == 0) = false := by simp [h2]
            have H2 := Lib.hid h2; have H3 := Lib.hid h3
            clear h2 h3
            go_wp2_with fail
            go_round
            case rel => exact ⟨k + 1, m, by omega, by go_num, rfl, .inr ⟨H2.out, H3.out⟩⟩
            case measure => simp [intOf]; omega
        · obtain ⟨h1, _⟩ := get_ge (xs := xss) (k := k) (by rw [← HL.out]; exact hlt)
          have hm : m = T := by
            rcases HI.out with ⟨rfl, h2⟩ | ⟨_, h2⟩
            · rw [h1.out] at h2; exact h2
            · exact h2
          subst hm
          have hm1 : (m != 0) = true := hT1.out
          have hm2 : (m == m) = true := by simp
          clear HI
          go_wp2_with fail
          go_ret
          exact ⟨rfl, HX2⟩

end Go.Proofs.Ytllhgkacbpgemaa
