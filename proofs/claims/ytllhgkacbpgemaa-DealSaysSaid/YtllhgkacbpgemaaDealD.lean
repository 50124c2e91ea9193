/- the walk of DealCombines where all goes through -/
import Derived.Test.YtllhgkacbpgemaaDealC
namespace Go.Proofs.Ytllhgkacbpgemaa
open Go.RowKit

theorem colSum_bd {n : Nat} (h52 : n ≤ 52) : ∀ {xss : List (List Int)}, firstErr n xss = 0 → ∀ j : Nat, j < n - 1 → 0 ≤ colSum xss j ∧ colSum xss j ≤ 52 * xss.length := by
  intro xss
  induction xss with
  | nil => intro _ j _; simp [colSum]
  | cons x xs ih =>
    intro h j hj
    rcases firstErr_cons n x xs 0 h with ⟨h1, h2⟩ | ⟨h1, h2⟩
    · have ih := ih h2 j hj
      obtain ⟨hl, hd⟩ := drawsErr_zero h1
      have hx := hd j (x[j]'(by omega)) (List.getElem?_eq_getElem (by omega))
      simp only [colSum, List.map_cons, List.sum_cons, List.length_cons] at ih ⊢
      have : x.getD j 0 = x[j]'(by omega) := by simp [List.getD_eq_getElem?_getD, List.getElem?_eq_getElem (show j < x.length by omega)]
      rw [this]
      omega
    · exact absurd h2 h1

theorem firstErr_take {n : Int} {xss : List (List Int)} (h : firstErr n xss = 0) (k : Nat) : firstErr n (xss.take k) = 0 := by
  induction xss generalizing k with
  | nil => simp [firstErr]
  | cons x xs ih =>
    rcases firstErr_cons n x xs 0 h with ⟨h1, h2⟩ | ⟨h1, h2⟩
    · cases k with
      | zero => rfl
      | succ k => simp [firstErr, h1, ih h2 k]
    · exact absurd h2 h1

theorem tmod_zero (S q : Int) (_ : 0 < q) : (S % q - S).tmod q = 0 := by
  apply Int.tmod_eq_zero_of_dvd
  have : S % q - S = q * -(S / q) := by have := Int.emod_add_mul_ediv S q; rw [Int.mul_neg]; omega
  rw [this]; exact ⟨_, rfl⟩

theorem comb_get (n : Nat) (xss : List (List Int)) (j : Nat) (h : j < n - 1) : (combF n xss)[j]? = some (combAt n xss j) := by
  simp [combF, h]

set_option maxHeartbeats 2000000 in
set_option maxRecDepth 100000 in
theorem dealCombines_ok (n : Nat) (s : Int) (v : Value) (xss : List (List Int)) (w : World) (hv : Rows (Value.int .i64) w v xss) (hb : ∀ x ∈ xss, x.length + 2 ≤ 17592186044416) (h52 : n ≤ 52) (h6 : xss.length ≤ 6) (hf : firstErr n xss = 0) :
    Calls Try.prog 5 #[.int .i64 n, v, .int .i64 s] w fun e w' => e = .returned (.bool true) ∧ Ext w w' := by
  have HCE := Lib.hid (fun (W : World) v (hW : Rows (Value.int .i64) W v xss) => combine_ok n v xss W hW h52 h6 hf)
  obtain ⟨us, ⟨ao, c, rfl, _, hlen, _, hc⟩, hl, hr⟩ := hv
  have HC := Lib.hid hc; have HR := Lib.hid hr; have HL := Lib.hid hl; have HB := Lib.hid hb; have HFE := Lib.hid hf
  have hul : us.length ≤ 6 := by omega
  have hulB : decide (6 < us.length) = false := by simp; omega
  have hulC : decide ((6 : Int) < (us.length : Int)) = false := by simp; omega
  have hn0 : decide ((n : Int) < 0) = false := by simp
  have hn1 : decide (52 < n) = false := by simp; omega
  have hn2 : decide ((52 : Int) < (n : Int)) = false := by simp; omega
  obtain ⟨m, hm⟩ : ∃ m, n - 1 = m := ⟨_, rfl⟩
  have hcs : (1 < n ∧ (((m : Nat) : Int) != (n : Int) - 1) = false) ∨ (n ≤ 1 ∧ (((m : Nat) : Int) != 0) = false) := by
    by_cases h : 1 < n
    · exact .inl ⟨h, by simp; omega⟩
    · exact .inr ⟨by omega, by simp; omega⟩
  rw [hm] at HCE
  have HM := Lib.hid hm
  have hmn : m ≤ n := by omega
  have HF := Lib.hid (dealFact_any w)
  clear hc hr hl hb hm hf
  rcases hcs with ⟨h1n, hmB⟩ | ⟨h1n, hmB⟩
  · go_enter Try.func5, Try.ntmps5
    go_wp2_with fail
    refine HF.out.mono ?_
    rintro e w0 ⟨rfl, hx0⟩
    go_wp2_with fail
    go_loopw [22] (fun i wr => ∃ k : Nat, k ≤ us.length ∧ i = .int .i64 k ∧ Ext w wr) (fun i _ => us.length - (intOf i).toNat)
    case atStart => exact ⟨0, Nat.zero_le _, rfl, hx0⟩
    case round =>
      obtain ⟨k, hk, rfl, HX⟩ := hrel
      by_cases hlt : k < us.length
      · obtain ⟨u, h1, _, _⟩ := get_lt hlt
        obtain ⟨x, g1, _, _⟩ := get_lt (xs := xss) (k := k) (by rw [← HL.out]; exact hlt)
        obtain ⟨b, off, rfl, hcell0⟩ := HC.out k u h1.out
        have hcell := HX.cell hcell0
        clear hcell0
        have hrow := Lib.hid ((HR.out k u x h1.out g1.out).ext HX)
        have hbx := HB.out x (List.mem_of_getElem? g1.out)
        obtain ⟨z, hz⟩ : ∃ z, Hid (sealF x s = z) := ⟨_, rfl⟩
        have HS := fun (W : World) (hW : Ext wr W) => seal_any u x s W (hrow.out.ext hW) hbx
        have HS2 := fun (W : World) (hW : Ext wr W) => sealOf_any u x s W (hrow.out.ext hW) hbx
        rw [hz.out] at HS HS2
        have HS := Lib.hid HS; have HS2 := Lib.hid HS2
        clear hbx
        go_wp2_with fail
        refine (HS.out _ (Ext.refl _)).mono ?_
        rintro e w1 ⟨rfl, hx1⟩
        go_wp2_with fail
        refine (HS2.out _ (by exact hx1)).mono ?_
        rintro e w2 ⟨rfl, hx2⟩
        go_wp2_with fail
        go_roundw
        case rel => exact ⟨k + 1, by omega, by go_num, HX.trans (hx1.trans hx2)⟩
        case measure => simp [intOf]; omega
      · obtain ⟨wo, rfl⟩ : ∃ wo : World, wo = wr := ⟨_, rfl⟩
        have HR2 : Rows (Value.int .i64) wo (.slice ao us.length c) xss := ⟨us, ⟨ao, c, rfl, ‹_›, hlen, ‹_›, HC.out.ext HX⟩, HL.out, fun i u xs a b => (HR.out i u xs a b).ext HX⟩
        have HR2 := Lib.hid HR2
        go_wp2_with fail
        refine (HCE.out _ _ HR2.out).mono ?_
        rintro e w3 ⟨r, rfl, hO3, hx3⟩
        have HX2 := HX.trans hx3
        obtain ⟨ro, rc, rfl, hrl, hrc⟩ := (own_rowOf (enc := Value.int .i64) (xs := combF n xss) hO3 (by omega)).open
        have hrm : (combF n xss).length = m := by rw [← HM.out]; simp [combF]
        rw [hrm]
        have HRC := Lib.hid hrc
        clear hO3 hrc hrl hrm
        go_wp2_with fail
        go_loop [11, 55] (fun q i => ∃ (k : Nat), k ≤ us.length ∧ i = .int .i64 k ∧ q = .int .i64 0) (fun _ i => us.length - (intOf i).toNat)
        case atStart => exact ⟨0, Nat.zero_le _, rfl, rfl⟩
        case round =>
          obtain ⟨k, hk, rfl, rfl⟩ := hrel
          by_cases hlt : k < us.length
          · obtain ⟨u, h1, _, _⟩ := get_lt hlt
            obtain ⟨x, g1, g2, _⟩ := get_lt (xs := xss) (k := k) (by rw [← HL.out]; exact hlt)
            obtain ⟨b, off, rfl, hcell0⟩ := HC.out k u h1.out
            have hcell := HX2.cell hcell0
            clear hcell0
            have hrow := Lib.hid ((HR.out k u x h1.out g1.out).ext HX2)
            have HE := fun W (hW : Ints W u x) => drawsError_any n u x W hW (by omega)
            rw [firstErr_zero n xss HFE.out x (List.mem_of_getElem? g1.out)] at HE
            have HE := Lib.hid HE
            go_wp2_with fail
            refine (HE.out _ hrow.out).mono ?_
            rintro e w4 ⟨rfl, rfl⟩
            go_wp2_with fail
            go_round
            case rel => exact ⟨k + 1, by omega, by go_num, rfl⟩
            case measure => simp [intOf]; omega
          · go_wp2_with fail
            go_loopw [87] (fun i wr => ∃ (j : Nat), j ≤ m ∧ i = .int .i64 j ∧ Ext w3 wr) (fun i _ => m - (intOf i).toNat)
            case atStart => exact ⟨0, Nat.zero_le _, rfl, Ext.refl _⟩
            case round =>
              obtain ⟨j, hj, rfl, HY⟩ := hrel
              obtain ⟨wi, rfl⟩ : ∃ wi : World, wi = wr := ⟨_, rfl⟩
              by_cases hjt : j < m
              · have hjn : j < n - 1 := by have := HM.out; omega
                obtain ⟨y, hy⟩ : ∃ y, combAt n xss j = y := ⟨_, rfl⟩
                obtain ⟨S, hS⟩ : ∃ S, colSum xss j = S := ⟨_, rfl⟩
                have hyb := combAt_bd n xss j hjn
                rw [hy] at hyb
                have hg : Hid ((combF n xss)[j]? = some y) := by rw [← hy]; exact comb_get n xss j hjn
                obtain ⟨rb, roff, rfl, hrcell0⟩ := HRC.out.at hg
                have hrcell := HY.cell hrcell0
                have hb1 : decide (y < 0) = false := by simp; omega
                have hb2 : decide ((n : Int) - j ≤ y) = false := by simp; omega
                have hb3 : ((y - S).tmod ((n : Int) - j) != 0) = false := by
                  rw [bne_eq_false_iff_eq, ← hy, ← hS]
                  exact tmod_zero _ _ (by omega)
                have hSb := colSum_bd h52 HFE.out j hjn
                rw [hS] at hSb
                have hS2 := Lib.hid hS
                clear hy hS hg hrcell0
                go_wp2_with fail
                go_loop [15, 94] (fun d i => ∃ (k : Nat) (t : Int), k ≤ us.length ∧ i = .int .i64 k ∧ d = .int .i64 (y - t) ∧ 0 ≤ t ∧ t ≤ 312 ∧ Hid (colSum (xss.take k) j = t)) (fun _ i => us.length - (intOf i).toNat)
                case atStart => exact ⟨0, 0, Nat.zero_le _, rfl, by simp, by omega, by omega, rfl⟩
                case round =>
                  obtain ⟨k, t, hk, rfl, rfl, ht0, ht1, HT⟩ := hrel
                  by_cases hlt : k < us.length
                  · obtain ⟨u, h1, _, _⟩ := get_lt hlt
                    obtain ⟨x, g1, g2, g3⟩ := get_lt (xs := xss) (k := k) (by rw [← HL.out]; exact hlt)
                    obtain ⟨b, off, rfl, hcell0⟩ := HC.out k u h1.out
                    have hcell := (HX2.trans HY).cell hcell0
                    clear hcell0
                    have hrow := (HR.out k u x h1.out g1.out).ext (HX2.trans HY)
                    obtain ⟨hxl, hxd⟩ := drawsErr_zero (firstErr_zero n xss HFE.out x (List.mem_of_getElem? g1.out))
                    obtain ⟨q, hq1, _, _⟩ := get_lt (xs := x) (k := j) (by omega)
                    have hqb := hxd j q hq1.out
                    have hjx : j < x.length := by omega
                    obtain ⟨xo, xc, rfl, _, hxc⟩ := hrow.open
                    obtain ⟨xb, xoff, rfl, hxcell⟩ := hxc.at hq1
                    have hsn := colSum_snoc g3 j
                    rw [HT.out, show x.getD j 0 = q from by rw [List.getD_eq_getElem?_getD, hq1.out]; rfl] at hsn
                    have hbd := (colSum_bd h52 (firstErr_take HFE.out (k + 1)) j hjn).2
                    rw [hsn] at hbd
                    have hlk : (xss.take (k + 1)).length ≤ 6 := by simp; omega
                    have HSN := Lib.hid hsn
                    have hbd2 : t + q ≤ 312 := by omega
                    clear hxc hrow hsn hxd hxl hbd hlk
                    go_wp2_with fail
                    go_round
                    case rel => exact ⟨k + 1, t + q, by omega, by go_num, by go_num, by omega, hbd2, HSN.out⟩
                    case measure => simp [intOf]; omega
                  · obtain ⟨_, h1⟩ := get_ge (xs := xss) (k := k) (by rw [← HL.out]; exact hlt)
                    have htS : t = S := by rw [← HT.out, h1.out, hS2.out]
                    subst htS
                    clear HT h1
                    go_wp2_with fail
                    go_roundw
                    case rel => exact ⟨j + 1, by omega, by go_num, HY⟩
                    case measure => simp [intOf]; omega
              · go_wp2_with fail
                go_ret
                exact ⟨rfl, HX2.trans HY⟩
  · go_enter Try.func5, Try.ntmps5
    go_wp2_with fail
    refine HF.out.mono ?_
    rintro e w0 ⟨rfl, hx0⟩
    go_wp2_with fail
    go_loopw [22] (fun i wr => ∃ k : Nat, k ≤ us.length ∧ i = .int .i64 k ∧ Ext w wr) (fun i _ => us.length - (intOf i).toNat)
    case atStart => exact ⟨0, Nat.zero_le _, rfl, hx0⟩
    case round =>
      obtain ⟨k, hk, rfl, HX⟩ := hrel
      by_cases hlt : k < us.length
      · obtain ⟨u, h1, _, _⟩ := get_lt hlt
        obtain ⟨x, g1, _, _⟩ := get_lt (xs := xss) (k := k) (by rw [← HL.out]; exact hlt)
        obtain ⟨b, off, rfl, hcell0⟩ := HC.out k u h1.out
        have hcell := HX.cell hcell0
        clear hcell0
        have hrow := Lib.hid ((HR.out k u x h1.out g1.out).ext HX)
        have hbx := HB.out x (List.mem_of_getElem? g1.out)
        obtain ⟨z, hz⟩ : ∃ z, Hid (sealF x s = z) := ⟨_, rfl⟩
        have HS := fun (W : World) (hW : Ext wr W) => seal_any u x s W (hrow.out.ext hW) hbx
        have HS2 := fun (W : World) (hW : Ext wr W) => sealOf_any u x s W (hrow.out.ext hW) hbx
        rw [hz.out] at HS HS2
        have HS := Lib.hid HS; have HS2 := Lib.hid HS2
        clear hbx
        go_wp2_with fail
        refine (HS.out _ (Ext.refl _)).mono ?_
        rintro e w1 ⟨rfl, hx1⟩
        go_wp2_with fail
        refine (HS2.out _ (by exact hx1)).mono ?_
        rintro e w2 ⟨rfl, hx2⟩
        go_wp2_with fail
        go_roundw
        case rel => exact ⟨k + 1, by omega, by go_num, HX.trans (hx1.trans hx2)⟩
        case measure => simp [intOf]; omega
      · obtain ⟨wo, rfl⟩ : ∃ wo : World, wo = wr := ⟨_, rfl⟩
        have HR2 : Rows (Value.int .i64) wo (.slice ao us.length c) xss := ⟨us, ⟨ao, c, rfl, ‹_›, hlen, ‹_›, HC.out.ext HX⟩, HL.out, fun i u xs a b => (HR.out i u xs a b).ext HX⟩
        have HR2 := Lib.hid HR2
        go_wp2_with fail
        refine (HCE.out _ _ HR2.out).mono ?_
        rintro e w3 ⟨r, rfl, hO3, hx3⟩
        have HX2 := HX.trans hx3
        obtain ⟨ro, rc, rfl, hrl, hrc⟩ := (own_rowOf (enc := Value.int .i64) (xs := combF n xss) hO3 (by omega)).open
        have hrm : (combF n xss).length = m := by rw [← HM.out]; simp [combF]
        rw [hrm]
        have HRC := Lib.hid hrc
        clear hO3 hrc hrl hrm
        go_wp2_with fail
        go_loop [11, 55] (fun q i => ∃ (k : Nat), k ≤ us.length ∧ i = .int .i64 k ∧ q = .int .i64 0) (fun _ i => us.length - (intOf i).toNat)
        case atStart => exact ⟨0, Nat.zero_le _, rfl, rfl⟩
        case round =>
          obtain ⟨k, hk, rfl, rfl⟩ := hrel
          by_cases hlt : k < us.length
          · obtain ⟨u, h1, _, _⟩ := get_lt hlt
            obtain ⟨x, g1, g2, _⟩ := get_lt (xs := xss) (k := k) (by rw [← HL.out]; exact hlt)
            obtain ⟨b, off, rfl, hcell0⟩ := HC.out k u h1.out
            have hcell := HX2.cell hcell0
            clear hcell0
            have hrow := Lib.hid ((HR.out k u x h1.out g1.out).ext HX2)
            have HE := fun W (hW : Ints W u x) => drawsError_any n u x W hW (by omega)
            rw [firstErr_zero n xss HFE.out x (List.mem_of_getElem? g1.out)] at HE
            have HE := Lib.hid HE
            go_wp2_with fail
            refine (HE.out _ hrow.out).mono ?_
            rintro e w4 ⟨rfl, rfl⟩
            go_wp2_with fail
            go_round
            case rel => exact ⟨k + 1, by omega, by go_num, rfl⟩
            case measure => simp [intOf]; omega
          · go_wp2_with fail
            go_loopw [87] (fun i wr => ∃ (j : Nat), j ≤ m ∧ i = .int .i64 j ∧ Ext w3 wr) (fun i _ => m - (intOf i).toNat)
            case atStart => exact ⟨0, Nat.zero_le _, rfl, Ext.refl _⟩
            case round =>
              obtain ⟨j, hj, rfl, HY⟩ := hrel
              obtain ⟨wi, rfl⟩ : ∃ wi : World, wi = wr := ⟨_, rfl⟩
              by_cases hjt : j < m
              · exfalso; have := HM.out; omega
              · go_wp2_with fail
                go_ret
                exact ⟨rfl, HX2.trans HY⟩
end Go.Proofs.Ytllhgkacbpgemaa
