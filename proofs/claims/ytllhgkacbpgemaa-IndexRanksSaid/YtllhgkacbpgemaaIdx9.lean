/- walks: the law IndexCounts -/
import Derived.Test.YtllhgkacbpgemaaIdx8
namespace Go.Proofs.Ytllhgkacbpgemaa
open Go.RowKit

theorem count_drop (ns : List Nat) (j x k : Nat) (h : Hid (ns.drop j = x :: ns.drop (j + 1))) : Hid ((ns.drop j).count k = (ns.drop (j + 1)).count k + if x = k then 1 else 0) := by
  show _ = _
  rw [h.out, List.count_cons]
  congr 1
  by_cases e : x = k <;> simp [e]

set_option maxHeartbeats 2000000 in
set_option maxRecDepth 100000 in
theorem law_counts_ok_ok (v1 v2 : Value) (cells l : List Int) (w : World) (h1 : Ints w v1 cells) (h2 : Ints w v2 l) (ns : List Nat) (hf : Fit ns) (hcells : Hid (cells = ofN ns)) (ls : List Nat) (hfc : FitC ls) (hl : Hid (l = ofN ls)) (h7 : ls.sum ≤ 7) :
    Calls Try.prog 3 #[v1, v2] w fun e w' => e = .returned (.bool true) ∧ Ext w w' := by
  have hce : cellsErr cells = 0 := by rw [hcells.out]; exact fit_err hf
  have C1 := fun W h => Counts_ok v1 cells W h hce
  have K1 := fun W h => cellsError_any v1 cells W h
  have E1 := fun W h => check_any v1 cells W h
  rw [hce] at K1 E1
  have hle : countsErr l = 0 := by rw [hl.out]; exact fitC_err hfc
  have hcv : countV l = (waysN ls : Nat) := by
    have e1 : (ofN ls).map Int.toNat = ls := by simp [ofN, List.map_map, Function.comp_def]
    simp only [countV, hle, if_true]; rw [hl.out, e1]
  have C2 := fun W h => Count_any v2 l W h
  have K2 := fun W h => countsError_any v2 l W h
  have E2 := fun W h => checkCounts_any v2 l W h
  rw [hle] at C2 K2 E2
  rw [hcv] at C2
  have hwn := waysN_le ls
  have hwf : fac ls.sum ≤ fac 16 := fac_mono hfc.2
  have hw16 : fac 16 = 20922789888000 := by decide
  have hwb : waysN ls ≤ 20922789888000 := by omega
  clear hwn hwf hw16 hcv
  have C1 := Lib.hid C1; have K1 := Lib.hid K1; have E1 := Lib.hid E1; have C2 := Lib.hid C2; have K2 := Lib.hid K2; have E2 := Lib.hid E2
  have HF := Lib.hid (indexFact_any w)
  clear hce hle
  go_enter Try.func3, Try.ntmps3
  go_wp2_with fail
  refine HF.out.mono ?_
  rintro e w1 ⟨rfl, X1⟩
  go_wp2_with fail
  refine (C1.out _ (h1.ext X1)).mono ?_
  rintro e w2 ⟨u1, rfl, hu, hx2⟩
  have X2 := X1.trans hx2
  clear hx2
  go_wp2_with fail
  refine (C2.out _ (h2.ext X2)).mono ?_
  rintro e w3 ⟨rfl, hx3⟩
  have X3 := X2.trans hx3
  have hu3 := hu.ext hx3
  clear hx3
  go_wp2_with fail
  refine (K1.out _ (h1.ext X3)).mono ?_
  rintro e w4 ⟨rfl, hx4⟩
  go_wp2_with fail
  refine (K2.out _ (h2.ext (X3.trans hx4))).mono ?_
  rintro e w5 ⟨rfl, hx5⟩
  go_wp2_with fail
  have hx6 := hx4.trans hx5
  refine (E1.out _ (h1.ext (X3.trans hx6))).mono ?_
  rintro e w6 ⟨rfl, hx7⟩
  have hx8 := hx6.trans hx7
  go_wp2_with fail
  refine (E2.out _ (h2.ext (X3.trans hx8))).mono ?_
  rintro e w7 ⟨rfl, hx9⟩
  have hxx := hx8.trans hx9
  have X7 := X3.trans hxx
  have hu7 := hu3.ext hxx
  rw [hcells.out, cnts_ofN] at hu7
  have hvc := Lib.hid (h1.ext X7)
  have hc7 := h1.ext X7
  rw [hcells.out] at hc7
  obtain ⟨bo, bc, rfl, hblen, hbc⟩ := (nats_of hc7).open
  obtain ⟨uo, uc, rfl, hulen, huc⟩ := (nats_of hu7).open
  rw [cntN_len] at *
  have h27 := h2.ext X7
  clear hx4 hx5 hx6 hx7 hx8 hx9 hxx
  rw [hl.out] at h27
  have h28 := nats_of h27
  obtain ⟨lo, lc, rfl, hllen, hlc⟩ := h28.open
  have H28 := Lib.hid h28; clear h28 h27
  go_wp2_with fail
  go_loop [76] (fun i => ∃ k : Nat, k ≤ 7 ∧ i = .int .i64 k) (fun i => 7 - (intOf i).toNat)
  case atStart => exact ⟨0, by omega, rfl⟩
  case round =>
    obtain ⟨k, hk, rfl⟩ := hrel
    by_cases hk7 : k < 7
    · obtain ⟨m, hm1, _, _⟩ := get_lt (xs := cntN 7 ns) (k := k) (by rw [cntN_len]; exact hk7)
      obtain ⟨ub, uf, rfl, hcu⟩ := huc.at hm1
      have hmc : m = ns.count k := by
        have := cntN_getD 7 ns k
        rw [if_pos hk7, List.getD_eq_getElem?_getD, hm1.out] at this
        exact this
      have hmb : m ≤ 16 := by
        have := List.count_le_length (a := k) (l := ns)
        have := hf.2
        omega
      have HM := Lib.hid hmc; clear hmc
      go_wp2_with fail
      go_loop [12, 83] (fun mv i => ∃ j : Nat, j ≤ ns.length ∧ i = .int .i64 j ∧ mv = .int .i64 ((ns.drop j).count k : Nat)) (fun _ i => ns.length - (intOf i).toNat)
      case atStart => exact ⟨0, by omega, rfl, congrArg (Value.int .i64) (by rw [HM.out]; rfl)⟩
      case round =>
        obtain ⟨j, hj, rfl, rfl⟩ := hrel
        by_cases hjl : j < ns.length
        · obtain ⟨x, hx1, hx2, _⟩ := get_lt hjl
          obtain ⟨b, off, rfl, hcx⟩ := hbc.at hx1
          have hcd := count_drop ns j x k hx2
          have hcb : (ns.drop (j + 1)).count k ≤ 16 := by
            have := List.count_le_length (a := k) (l := ns.drop (j + 1))
            have := hf.2
            simp at *; omega
          rw [hcd.out]
          obtain ⟨z, hz⟩ : ∃ z, Hid ((ns.drop (j + 1)).count k = z) := ⟨_, rfl⟩
          rw [hz.out] at hcb ⊢
          by_cases hxk : x = k
          · subst hxk
            have hbq : ((x : Int) == (x : Int)) = true := by simp
            rw [if_pos rfl]
            go_wp2_with fail
            go_round
            case rel => exact ⟨j + 1, by omega, by go_num, congrArg (Value.int .i64) (by have := hz.out; omega)⟩
            case measure => simp [intOf]; omega
          · have hbq : ((x : Int) == (k : Int)) = false := by simp; omega
            rw [if_neg hxk]
            go_wp2_with fail
            go_round
            case rel => exact ⟨j + 1, by omega, by go_num, congrArg (Value.int .i64) (by have := hz.out; omega)⟩
            case measure => simp [intOf]; omega
        · obtain ⟨hd, _⟩ := get_ge hjl
          rw [hd.out]
          go_wp2_with fail
          go_round
          case rel => exact ⟨k + 1, by omega, by go_num⟩
          case measure => simp [intOf]; omega
    · obtain rfl : k = 7 := by omega
      go_wp2_with fail
      go_loop [15, 98] (fun sv i => ∃ k : Nat, k ≤ ls.length ∧ i = .int .i64 k ∧ sv = .int .i64 ((ls.take k).sum : Nat)) (fun _ i => ls.length - (intOf i).toNat)
      case atStart => exact ⟨0, Nat.zero_le _, rfl, rfl⟩
      case round =>
        obtain ⟨k, hk, rfl, rfl⟩ := hrel
        by_cases hlt : k < ls.length
        · obtain ⟨x, hx1, _, hx3⟩ := get_lt hlt
          obtain ⟨b, off, rfl, hcx⟩ := hlc.at hx1
          have hsb : (ls.take k).sum + x ≤ 16 := by
            have := sum_take_le ls (k + 1)
            have := hfc.2
            rw [hx3.out] at *; simp at *; omega
          go_wp2_with fail
          go_round
          case rel => exact ⟨k + 1, by omega, by go_num, by rw [hx3.out]; simp⟩
          case measure => simp [intOf]; omega
        · obtain ⟨_, ht⟩ := get_ge hlt
          rw [ht.out]
          have h7i : ((ls.sum : Nat) : Int) ≤ 7 := by omega
          have hl7 : ls.length ≤ 7 := by have := hfc.1; omega
          have HP := Lib.hid (placements_any ls.sum _ ls _ H28.out hl7 rfl (by omega))
          have HW := Lib.hid (plF_all ls.sum ls rfl).1
          have hw7 : fac ls.sum ≤ fac 7 := fac_mono h7
          have hw77 : fac 7 = 5040 := by decide
          have hwl := waysN_le ls
          have hwl2 : waysN ls ≤ 5040 := by omega
          clear hw7 hw77 hwl
          go_wp2_with fail
          refine HP.out.mono ?_
          rintro e w8 ⟨u, rfl, us, hus, hrs, hx8⟩
          have hul : us.length = waysN ls := by
            have := hrs.len
            simp only [List.length_map, HW.out] at this; exact this
          obtain ⟨ao3, c3, rfl, _, _, _, _⟩ := own_row hus (by omega)
          have HU := Lib.hid hul
          clear hul hus hrs
          go_wp2_with fail
          go_ret
          exact ⟨ret_bool (by rw [HU.out]; simp), X7.trans hx8⟩

set_option maxHeartbeats 2000000 in
set_option maxRecDepth 100000 in
theorem law_counts_ok_big (v1 v2 : Value) (cells l : List Int) (w : World) (h1 : Ints w v1 cells) (h2 : Ints w v2 l) (ns : List Nat) (hf : Fit ns) (hcells : Hid (cells = ofN ns)) (ls : List Nat) (hfc : FitC ls) (hl : Hid (l = ofN ls)) (h7 : 7 < ls.sum) :
    Calls Try.prog 3 #[v1, v2] w fun e w' => e = .returned (.bool true) ∧ Ext w w' := by
  have hce : cellsErr cells = 0 := by rw [hcells.out]; exact fit_err hf
  have C1 := fun W h => Counts_ok v1 cells W h hce
  have K1 := fun W h => cellsError_any v1 cells W h
  have E1 := fun W h => check_any v1 cells W h
  rw [hce] at K1 E1
  have hle : countsErr l = 0 := by rw [hl.out]; exact fitC_err hfc
  have hcv : countV l = (waysN ls : Nat) := by
    have e1 : (ofN ls).map Int.toNat = ls := by simp [ofN, List.map_map, Function.comp_def]
    simp only [countV, hle, if_true]; rw [hl.out, e1]
  have C2 := fun W h => Count_any v2 l W h
  have K2 := fun W h => countsError_any v2 l W h
  have E2 := fun W h => checkCounts_any v2 l W h
  rw [hle] at C2 K2 E2
  rw [hcv] at C2
  have hwn := waysN_le ls
  have hwf : fac ls.sum ≤ fac 16 := fac_mono hfc.2
  have hw16 : fac 16 = 20922789888000 := by decide
  have hwb : waysN ls ≤ 20922789888000 := by omega
  clear hwn hwf hw16 hcv
  have C1 := Lib.hid C1; have K1 := Lib.hid K1; have E1 := Lib.hid E1; have C2 := Lib.hid C2; have K2 := Lib.hid K2; have E2 := Lib.hid E2
  have HF := Lib.hid (indexFact_any w)
  clear hce hle
  go_enter Try.func3, Try.ntmps3
  go_wp2_with fail
  refine HF.out.mono ?_
  rintro e w1 ⟨rfl, X1⟩
  go_wp2_with fail
  refine (C1.out _ (h1.ext X1)).mono ?_
  rintro e w2 ⟨u1, rfl, hu, hx2⟩
  have X2 := X1.trans hx2
  clear hx2
  go_wp2_with fail
  refine (C2.out _ (h2.ext X2)).mono ?_
  rintro e w3 ⟨rfl, hx3⟩
  have X3 := X2.trans hx3
  have hu3 := hu.ext hx3
  clear hx3
  go_wp2_with fail
  refine (K1.out _ (h1.ext X3)).mono ?_
  rintro e w4 ⟨rfl, hx4⟩
  go_wp2_with fail
  refine (K2.out _ (h2.ext (X3.trans hx4))).mono ?_
  rintro e w5 ⟨rfl, hx5⟩
  go_wp2_with fail
  have hx6 := hx4.trans hx5
  refine (E1.out _ (h1.ext (X3.trans hx6))).mono ?_
  rintro e w6 ⟨rfl, hx7⟩
  have hx8 := hx6.trans hx7
  go_wp2_with fail
  refine (E2.out _ (h2.ext (X3.trans hx8))).mono ?_
  rintro e w7 ⟨rfl, hx9⟩
  have hxx := hx8.trans hx9
  have X7 := X3.trans hxx
  have hu7 := hu3.ext hxx
  rw [hcells.out, cnts_ofN] at hu7
  have hvc := Lib.hid (h1.ext X7)
  have hc7 := h1.ext X7
  rw [hcells.out] at hc7
  obtain ⟨bo, bc, rfl, hblen, hbc⟩ := (nats_of hc7).open
  obtain ⟨uo, uc, rfl, hulen, huc⟩ := (nats_of hu7).open
  rw [cntN_len] at *
  have h27 := h2.ext X7
  clear hx4 hx5 hx6 hx7 hx8 hx9 hxx
  rw [hl.out] at h27
  have h28 := nats_of h27
  obtain ⟨lo, lc, rfl, hllen, hlc⟩ := h28.open
  have H28 := Lib.hid h28; clear h28 h27
  go_wp2_with fail
  go_loop [76] (fun i => ∃ k : Nat, k ≤ 7 ∧ i = .int .i64 k) (fun i => 7 - (intOf i).toNat)
  case atStart => exact ⟨0, by omega, rfl⟩
  case round =>
    obtain ⟨k, hk, rfl⟩ := hrel
    by_cases hk7 : k < 7
    · obtain ⟨m, hm1, _, _⟩ := get_lt (xs := cntN 7 ns) (k := k) (by rw [cntN_len]; exact hk7)
      obtain ⟨ub, uf, rfl, hcu⟩ := huc.at hm1
      have hmc : m = ns.count k := by
        have := cntN_getD 7 ns k
        rw [if_pos hk7, List.getD_eq_getElem?_getD, hm1.out] at this
        exact this
      have hmb : m ≤ 16 := by
        have := List.count_le_length (a := k) (l := ns)
        have := hf.2
        omega
      have HM := Lib.hid hmc; clear hmc
      go_wp2_with fail
      go_loop [12, 83] (fun mv i => ∃ j : Nat, j ≤ ns.length ∧ i = .int .i64 j ∧ mv = .int .i64 ((ns.drop j).count k : Nat)) (fun _ i => ns.length - (intOf i).toNat)
      case atStart => exact ⟨0, by omega, rfl, congrArg (Value.int .i64) (by rw [HM.out]; rfl)⟩
      case round =>
        obtain ⟨j, hj, rfl, rfl⟩ := hrel
        by_cases hjl : j < ns.length
        · obtain ⟨x, hx1, hx2, _⟩ := get_lt hjl
          obtain ⟨b, off, rfl, hcx⟩ := hbc.at hx1
          have hcd := count_drop ns j x k hx2
          have hcb : (ns.drop (j + 1)).count k ≤ 16 := by
            have := List.count_le_length (a := k) (l := ns.drop (j + 1))
            have := hf.2
            simp at *; omega
          rw [hcd.out]
          obtain ⟨z, hz⟩ : ∃ z, Hid ((ns.drop (j + 1)).count k = z) := ⟨_, rfl⟩
          rw [hz.out] at hcb ⊢
          by_cases hxk : x = k
          · subst hxk
            have hbq : ((x : Int) == (x : Int)) = true := by simp
            rw [if_pos rfl]
            go_wp2_with fail
            go_round
            case rel => exact ⟨j + 1, by omega, by go_num, congrArg (Value.int .i64) (by have := hz.out; omega)⟩
            case measure => simp [intOf]; omega
          · have hbq : ((x : Int) == (k : Int)) = false := by simp; omega
            rw [if_neg hxk]
            go_wp2_with fail
            go_round
            case rel => exact ⟨j + 1, by omega, by go_num, congrArg (Value.int .i64) (by have := hz.out; omega)⟩
            case measure => simp [intOf]; omega
        · obtain ⟨hd, _⟩ := get_ge hjl
          rw [hd.out]
          go_wp2_with fail
          go_round
          case rel => exact ⟨k + 1, by omega, by go_num⟩
          case measure => simp [intOf]; omega
    · obtain rfl : k = 7 := by omega
      go_wp2_with fail
      go_loop [15, 98] (fun sv i => ∃ k : Nat, k ≤ ls.length ∧ i = .int .i64 k ∧ sv = .int .i64 ((ls.take k).sum : Nat)) (fun _ i => ls.length - (intOf i).toNat)
      case atStart => exact ⟨0, Nat.zero_le _, rfl, rfl⟩
      case round =>
        obtain ⟨k, hk, rfl, rfl⟩ := hrel
        by_cases hlt : k < ls.length
        · obtain ⟨x, hx1, _, hx3⟩ := get_lt hlt
          obtain ⟨b, off, rfl, hcx⟩ := hlc.at hx1
          have hsb : (ls.take k).sum + x ≤ 16 := by
            have := sum_take_le ls (k + 1)
            have := hfc.2
            rw [hx3.out] at *; simp at *; omega
          go_wp2_with fail
          go_round
          case rel => exact ⟨k + 1, by omega, by go_num, by rw [hx3.out]; simp⟩
          case measure => simp [intOf]; omega
        · obtain ⟨_, ht⟩ := get_ge hlt
          rw [ht.out]
          have h7i : (7 : Int) < (ls.sum : Nat) := by omega
          go_wp2_with fail
          go_ret
          exact ⟨rfl, X7⟩

set_option maxHeartbeats 2000000 in
set_option maxRecDepth 100000 in
theorem law_counts_ok_err (v1 v2 : Value) (cells l : List Int) (w : World) (h1 : Ints w v1 cells) (h2 : Ints w v2 l) (ns : List Nat) (hf : Fit ns) (hcells : Hid (cells = ofN ns)) (hle : countsErr l ≠ 0) :
    Calls Try.prog 3 #[v1, v2] w fun e w' => e = .returned (.bool true) ∧ Ext w w' := by
  have hce : cellsErr cells = 0 := by rw [hcells.out]; exact fit_err hf
  have C1 := fun W h => Counts_ok v1 cells W h hce
  have K1 := fun W h => cellsError_any v1 cells W h
  have E1 := fun W h => check_any v1 cells W h
  rw [hce] at K1 E1
  have hcv : countV l = 0 := by simp [countV, hle]
  have C2 := fun W h => Count_any v2 l W h
  have K2 := fun W h => countsError_any v2 l W h
  have E2 := fun W h => checkCounts_any v2 l W h
  rw [hcv] at C2
  have hn3 : (countsErr l != 0) = true := by simp [hle]
  have hn4 : (countsErr l == 0) = false := by simp [hle]
  generalize countsErr l = q2 at *
  clear hcv
  have C1 := Lib.hid C1; have K1 := Lib.hid K1; have E1 := Lib.hid E1; have C2 := Lib.hid C2; have K2 := Lib.hid K2; have E2 := Lib.hid E2
  have HF := Lib.hid (indexFact_any w)
  clear hce hle
  go_enter Try.func3, Try.ntmps3
  go_wp2_with fail
  refine HF.out.mono ?_
  rintro e w1 ⟨rfl, X1⟩
  go_wp2_with fail
  refine (C1.out _ (h1.ext X1)).mono ?_
  rintro e w2 ⟨u1, rfl, hu, hx2⟩
  have X2 := X1.trans hx2
  clear hx2
  go_wp2_with fail
  refine (C2.out _ (h2.ext X2)).mono ?_
  rintro e w3 ⟨rfl, hx3⟩
  have X3 := X2.trans hx3
  have hu3 := hu.ext hx3
  clear hx3
  go_wp2_with fail
  refine (K1.out _ (h1.ext X3)).mono ?_
  rintro e w4 ⟨rfl, hx4⟩
  go_wp2_with fail
  refine (K2.out _ (h2.ext (X3.trans hx4))).mono ?_
  rintro e w5 ⟨rfl, hx5⟩
  go_wp2_with fail
  have hx6 := hx4.trans hx5
  refine (E1.out _ (h1.ext (X3.trans hx6))).mono ?_
  rintro e w6 ⟨rfl, hx7⟩
  have hx8 := hx6.trans hx7
  go_wp2_with fail
  refine (E2.out _ (h2.ext (X3.trans hx8))).mono ?_
  rintro e w7 ⟨rfl, hx9⟩
  have hxx := hx8.trans hx9
  have X7 := X3.trans hxx
  have hu7 := hu3.ext hxx
  rw [hcells.out, cnts_ofN] at hu7
  have hvc := Lib.hid (h1.ext X7)
  have hc7 := h1.ext X7
  rw [hcells.out] at hc7
  obtain ⟨bo, bc, rfl, hblen, hbc⟩ := (nats_of hc7).open
  obtain ⟨uo, uc, rfl, hulen, huc⟩ := (nats_of hu7).open
  rw [cntN_len] at *
  have h27 := h2.ext X7
  clear hx4 hx5 hx6 hx7 hx8 hx9 hxx
  obtain ⟨lo, lc, rfl, hllen, hlc⟩ := h27.open
  go_wp2_with fail
  go_loop [76] (fun i => ∃ k : Nat, k ≤ 7 ∧ i = .int .i64 k) (fun i => 7 - (intOf i).toNat)
  case atStart => exact ⟨0, by omega, rfl⟩
  case round =>
    obtain ⟨k, hk, rfl⟩ := hrel
    by_cases hk7 : k < 7
    · obtain ⟨m, hm1, _, _⟩ := get_lt (xs := cntN 7 ns) (k := k) (by rw [cntN_len]; exact hk7)
      obtain ⟨ub, uf, rfl, hcu⟩ := huc.at hm1
      have hmc : m = ns.count k := by
        have := cntN_getD 7 ns k
        rw [if_pos hk7, List.getD_eq_getElem?_getD, hm1.out] at this
        exact this
      have hmb : m ≤ 16 := by
        have := List.count_le_length (a := k) (l := ns)
        have := hf.2
        omega
      have HM := Lib.hid hmc; clear hmc
      go_wp2_with fail
      go_loop [12, 83] (fun mv i => ∃ j : Nat, j ≤ ns.length ∧ i = .int .i64 j ∧ mv = .int .i64 ((ns.drop j).count k : Nat)) (fun _ i => ns.length - (intOf i).toNat)
      case atStart => exact ⟨0, by omega, rfl, congrArg (Value.int .i64) (by rw [HM.out]; rfl)⟩
      case round =>
        obtain ⟨j, hj, rfl, rfl⟩ := hrel
        by_cases hjl : j < ns.length
        · obtain ⟨x, hx1, hx2, _⟩ := get_lt hjl
          obtain ⟨b, off, rfl, hcx⟩ := hbc.at hx1
          have hcd := count_drop ns j x k hx2
          have hcb : (ns.drop (j + 1)).count k ≤ 16 := by
            have := List.count_le_length (a := k) (l := ns.drop (j + 1))
            have := hf.2
            simp at *; omega
          rw [hcd.out]
          obtain ⟨z, hz⟩ : ∃ z, Hid ((ns.drop (j + 1)).count k = z) := ⟨_, rfl⟩
          rw [hz.out] at hcb ⊢
          by_cases hxk : x = k
          · subst hxk
            have hbq : ((x : Int) == (x : Int)) = true := by simp
            rw [if_pos rfl]
            go_wp2_with fail
            go_round
            case rel => exact ⟨j + 1, by omega, by go_num, congrArg (Value.int .i64) (by have := hz.out; omega)⟩
            case measure => simp [intOf]; omega
          · have hbq : ((x : Int) == (k : Int)) = false := by simp; omega
            rw [if_neg hxk]
            go_wp2_with fail
            go_round
            case rel => exact ⟨j + 1, by omega, by go_num, congrArg (Value.int .i64) (by have := hz.out; omega)⟩
            case measure => simp [intOf]; omega
        · obtain ⟨hd, _⟩ := get_ge hjl
          rw [hd.out]
          go_wp2_with fail
          go_round
          case rel => exact ⟨k + 1, by omega, by go_num⟩
          case measure => simp [intOf]; omega
    · obtain rfl : k = 7 := by omega
      go_wp2_with fail
      go_loop [15, 98] (fun sv i => ∃ k : Nat, k ≤ l.length ∧ i = .int .i64 k ∧ sv = .int .i64 0) (fun _ i => l.length - (intOf i).toNat)
      case atStart => exact ⟨0, Nat.zero_le _, rfl, rfl⟩
      case round =>
        obtain ⟨k, hk, rfl, rfl⟩ := hrel
        by_cases hlt : k < l.length
        · obtain ⟨x, hx1, _, _⟩ := get_lt hlt
          obtain ⟨b, off, rfl, hcx⟩ := hlc.at hx1
          go_wp2_with fail
          go_round
          case rel => exact ⟨k + 1, by omega, by go_num, rfl⟩
          case measure => simp [intOf]; omega
        · go_wp2_with fail
          go_ret
          exact ⟨rfl, X7⟩

set_option maxHeartbeats 2000000 in
set_option maxRecDepth 100000 in
theorem law_counts_err_ok (v1 v2 : Value) (cells l : List Int) (w : World) (h1 : Ints w v1 cells) (h2 : Ints w v2 l) (hce : cellsErr cells ≠ 0) (ls : List Nat) (hfc : FitC ls) (hl : Hid (l = ofN ls)) (h7 : ls.sum ≤ 7) :
    Calls Try.prog 3 #[v1, v2] w fun e w' => e = .returned (.bool true) ∧ Ext w w' := by
  have C1 := fun W h => Counts_err v1 cells W h hce
  have K1 := fun W h => cellsError_any v1 cells W h
  have E1 := fun W h => check_any v1 cells W h
  have hn1 : (cellsErr cells != 0) = true := by simp [hce]
  have hn2 : (cellsErr cells == 0) = false := by simp [hce]
  generalize cellsErr cells = q1 at *
  have hle : countsErr l = 0 := by rw [hl.out]; exact fitC_err hfc
  have hcv : countV l = (waysN ls : Nat) := by
    have e1 : (ofN ls).map Int.toNat = ls := by simp [ofN, List.map_map, Function.comp_def]
    simp only [countV, hle, if_true]; rw [hl.out, e1]
  have C2 := fun W h => Count_any v2 l W h
  have K2 := fun W h => countsError_any v2 l W h
  have E2 := fun W h => checkCounts_any v2 l W h
  rw [hle] at C2 K2 E2
  rw [hcv] at C2
  have hwn := waysN_le ls
  have hwf : fac ls.sum ≤ fac 16 := fac_mono hfc.2
  have hw16 : fac 16 = 20922789888000 := by decide
  have hwb : waysN ls ≤ 20922789888000 := by omega
  clear hwn hwf hw16 hcv
  have C1 := Lib.hid C1; have K1 := Lib.hid K1; have E1 := Lib.hid E1; have C2 := Lib.hid C2; have K2 := Lib.hid K2; have E2 := Lib.hid E2
  have HF := Lib.hid (indexFact_any w)
  clear hce hle
  go_enter Try.func3, Try.ntmps3
  go_wp2_with fail
  refine HF.out.mono ?_
  rintro e w1 ⟨rfl, X1⟩
  go_wp2_with fail
  refine (C1.out _ (h1.ext X1)).mono ?_
  rintro e w2 ⟨rfl, hx2⟩
  have X2 := X1.trans hx2
  clear hx2
  go_wp2_with fail
  refine (C2.out _ (h2.ext X2)).mono ?_
  rintro e w3 ⟨rfl, hx3⟩
  have X3 := X2.trans hx3
  clear hx3
  go_wp2_with fail
  refine (K1.out _ (h1.ext X3)).mono ?_
  rintro e w4 ⟨rfl, hx4⟩
  go_wp2_with fail
  refine (K2.out _ (h2.ext (X3.trans hx4))).mono ?_
  rintro e w5 ⟨rfl, hx5⟩
  go_wp2_with fail
  have hx6 := hx4.trans hx5
  refine (E1.out _ (h1.ext (X3.trans hx6))).mono ?_
  rintro e w6 ⟨rfl, hx7⟩
  have hx8 := hx6.trans hx7
  go_wp2_with fail
  refine (E2.out _ (h2.ext (X3.trans hx8))).mono ?_
  rintro e w7 ⟨rfl, hx9⟩
  have hxx := hx8.trans hx9
  have X7 := X3.trans hxx
  have h27 := h2.ext X7
  clear hx4 hx5 hx6 hx7 hx8 hx9 hxx
  rw [hl.out] at h27
  have h28 := nats_of h27
  obtain ⟨lo, lc, rfl, hllen, hlc⟩ := h28.open
  have H28 := Lib.hid h28; clear h28 h27
  go_wp2_with fail
  go_loop [15, 98] (fun sv i => ∃ k : Nat, k ≤ ls.length ∧ i = .int .i64 k ∧ sv = .int .i64 ((ls.take k).sum : Nat)) (fun _ i => ls.length - (intOf i).toNat)
  case atStart => exact ⟨0, Nat.zero_le _, rfl, rfl⟩
  case round =>
    obtain ⟨k, hk, rfl, rfl⟩ := hrel
    by_cases hlt : k < ls.length
    · obtain ⟨x, hx1, _, hx3⟩ := get_lt hlt
      obtain ⟨b, off, rfl, hcx⟩ := hlc.at hx1
      have hsb : (ls.take k).sum + x ≤ 16 := by
        have := sum_take_le ls (k + 1)
        have := hfc.2
        rw [hx3.out] at *; simp at *; omega
      go_wp2_with fail
      go_round
      case rel => exact ⟨k + 1, by omega, by go_num, by rw [hx3.out]; simp⟩
      case measure => simp [intOf]; omega
    · obtain ⟨_, ht⟩ := get_ge hlt
      rw [ht.out]
      have h7i : ((ls.sum : Nat) : Int) ≤ 7 := by omega
      have hl7 : ls.length ≤ 7 := by have := hfc.1; omega
      have HP := Lib.hid (placements_any ls.sum _ ls _ H28.out hl7 rfl (by omega))
      have HW := Lib.hid (plF_all ls.sum ls rfl).1
      have hw7 : fac ls.sum ≤ fac 7 := fac_mono h7
      have hw77 : fac 7 = 5040 := by decide
      have hwl := waysN_le ls
      have hwl2 : waysN ls ≤ 5040 := by omega
      clear hw7 hw77 hwl
      go_wp2_with fail
      refine HP.out.mono ?_
      rintro e w8 ⟨u, rfl, us, hus, hrs, hx8⟩
      have hul : us.length = waysN ls := by
        have := hrs.len
        simp only [List.length_map, HW.out] at this; exact this
      obtain ⟨ao3, c3, rfl, _, _, _, _⟩ := own_row hus (by omega)
      have HU := Lib.hid hul
      clear hul hus hrs
      go_wp2_with fail
      go_ret
      exact ⟨ret_bool (by rw [HU.out]; simp), X7.trans hx8⟩

set_option maxHeartbeats 2000000 in
set_option maxRecDepth 100000 in
theorem law_counts_err_big (v1 v2 : Value) (cells l : List Int) (w : World) (h1 : Ints w v1 cells) (h2 : Ints w v2 l) (hce : cellsErr cells ≠ 0) (ls : List Nat) (hfc : FitC ls) (hl : Hid (l = ofN ls)) (h7 : 7 < ls.sum) :
    Calls Try.prog 3 #[v1, v2] w fun e w' => e = .returned (.bool true) ∧ Ext w w' := by
  have C1 := fun W h => Counts_err v1 cells W h hce
  have K1 := fun W h => cellsError_any v1 cells W h
  have E1 := fun W h => check_any v1 cells W h
  have hn1 : (cellsErr cells != 0) = true := by simp [hce]
  have hn2 : (cellsErr cells == 0) = false := by simp [hce]
  generalize cellsErr cells = q1 at *
  have hle : countsErr l = 0 := by rw [hl.out]; exact fitC_err hfc
  have hcv : countV l = (waysN ls : Nat) := by
    have e1 : (ofN ls).map Int.toNat = ls := by simp [ofN, List.map_map, Function.comp_def]
    simp only [countV, hle, if_true]; rw [hl.out, e1]
  have C2 := fun W h => Count_any v2 l W h
  have K2 := fun W h => countsError_any v2 l W h
  have E2 := fun W h => checkCounts_any v2 l W h
  rw [hle] at C2 K2 E2
  rw [hcv] at C2
  have hwn := waysN_le ls
  have hwf : fac ls.sum ≤ fac 16 := fac_mono hfc.2
  have hw16 : fac 16 = 20922789888000 := by decide
  have hwb : waysN ls ≤ 20922789888000 := by omega
  clear hwn hwf hw16 hcv
  have C1 := Lib.hid C1; have K1 := Lib.hid K1; have E1 := Lib.hid E1; have C2 := Lib.hid C2; have K2 := Lib.hid K2; have E2 := Lib.hid E2
  have HF := Lib.hid (indexFact_any w)
  clear hce hle
  go_enter Try.func3, Try.ntmps3
  go_wp2_with fail
  refine HF.out.mono ?_
  rintro e w1 ⟨rfl, X1⟩
  go_wp2_with fail
  refine (C1.out _ (h1.ext X1)).mono ?_
  rintro e w2 ⟨rfl, hx2⟩
  have X2 := X1.trans hx2
  clear hx2
  go_wp2_with fail
  refine (C2.out _ (h2.ext X2)).mono ?_
  rintro e w3 ⟨rfl, hx3⟩
  have X3 := X2.trans hx3
  clear hx3
  go_wp2_with fail
  refine (K1.out _ (h1.ext X3)).mono ?_
  rintro e w4 ⟨rfl, hx4⟩
  go_wp2_with fail
  refine (K2.out _ (h2.ext (X3.trans hx4))).mono ?_
  rintro e w5 ⟨rfl, hx5⟩
  go_wp2_with fail
  have hx6 := hx4.trans hx5
  refine (E1.out _ (h1.ext (X3.trans hx6))).mono ?_
  rintro e w6 ⟨rfl, hx7⟩
  have hx8 := hx6.trans hx7
  go_wp2_with fail
  refine (E2.out _ (h2.ext (X3.trans hx8))).mono ?_
  rintro e w7 ⟨rfl, hx9⟩
  have hxx := hx8.trans hx9
  have X7 := X3.trans hxx
  have h27 := h2.ext X7
  clear hx4 hx5 hx6 hx7 hx8 hx9 hxx
  rw [hl.out] at h27
  have h28 := nats_of h27
  obtain ⟨lo, lc, rfl, hllen, hlc⟩ := h28.open
  have H28 := Lib.hid h28; clear h28 h27
  go_wp2_with fail
  go_loop [15, 98] (fun sv i => ∃ k : Nat, k ≤ ls.length ∧ i = .int .i64 k ∧ sv = .int .i64 ((ls.take k).sum : Nat)) (fun _ i => ls.length - (intOf i).toNat)
  case atStart => exact ⟨0, Nat.zero_le _, rfl, rfl⟩
  case round =>
    obtain ⟨k, hk, rfl, rfl⟩ := hrel
    by_cases hlt : k < ls.length
    · obtain ⟨x, hx1, _, hx3⟩ := get_lt hlt
      obtain ⟨b, off, rfl, hcx⟩ := hlc.at hx1
      have hsb : (ls.take k).sum + x ≤ 16 := by
        have := sum_take_le ls (k + 1)
        have := hfc.2
        rw [hx3.out] at *; simp at *; omega
      go_wp2_with fail
      go_round
      case rel => exact ⟨k + 1, by omega, by go_num, by rw [hx3.out]; simp⟩
      case measure => simp [intOf]; omega
    · obtain ⟨_, ht⟩ := get_ge hlt
      rw [ht.out]
      have h7i : (7 : Int) < (ls.sum : Nat) := by omega
      go_wp2_with fail
      go_ret
      exact ⟨rfl, X7⟩

set_option maxHeartbeats 2000000 in
set_option maxRecDepth 100000 in
theorem law_counts_err_err (v1 v2 : Value) (cells l : List Int) (w : World) (h1 : Ints w v1 cells) (h2 : Ints w v2 l) (hce : cellsErr cells ≠ 0) (hle : countsErr l ≠ 0) :
    Calls Try.prog 3 #[v1, v2] w fun e w' => e = .returned (.bool true) ∧ Ext w w' := by
  have C1 := fun W h => Counts_err v1 cells W h hce
  have K1 := fun W h => cellsError_any v1 cells W h
  have E1 := fun W h => check_any v1 cells W h
  have hn1 : (cellsErr cells != 0) = true := by simp [hce]
  have hn2 : (cellsErr cells == 0) = false := by simp [hce]
  generalize cellsErr cells = q1 at *
  have hcv : countV l = 0 := by simp [countV, hle]
  have C2 := fun W h => Count_any v2 l W h
  have K2 := fun W h => countsError_any v2 l W h
  have E2 := fun W h => checkCounts_any v2 l W h
  rw [hcv] at C2
  have hn3 : (countsErr l != 0) = true := by simp [hle]
  have hn4 : (countsErr l == 0) = false := by simp [hle]
  generalize countsErr l = q2 at *
  clear hcv
  have C1 := Lib.hid C1; have K1 := Lib.hid K1; have E1 := Lib.hid E1; have C2 := Lib.hid C2; have K2 := Lib.hid K2; have E2 := Lib.hid E2
  have HF := Lib.hid (indexFact_any w)
  clear hce hle
  go_enter Try.func3, Try.ntmps3
  go_wp2_with fail
  refine HF.out.mono ?_
  rintro e w1 ⟨rfl, X1⟩
  go_wp2_with fail
  refine (C1.out _ (h1.ext X1)).mono ?_
  rintro e w2 ⟨rfl, hx2⟩
  have X2 := X1.trans hx2
  clear hx2
  go_wp2_with fail
  refine (C2.out _ (h2.ext X2)).mono ?_
  rintro e w3 ⟨rfl, hx3⟩
  have X3 := X2.trans hx3
  clear hx3
  go_wp2_with fail
  refine (K1.out _ (h1.ext X3)).mono ?_
  rintro e w4 ⟨rfl, hx4⟩
  go_wp2_with fail
  refine (K2.out _ (h2.ext (X3.trans hx4))).mono ?_
  rintro e w5 ⟨rfl, hx5⟩
  go_wp2_with fail
  have hx6 := hx4.trans hx5
  refine (E1.out _ (h1.ext (X3.trans hx6))).mono ?_
  rintro e w6 ⟨rfl, hx7⟩
  have hx8 := hx6.trans hx7
  go_wp2_with fail
  refine (E2.out _ (h2.ext (X3.trans hx8))).mono ?_
  rintro e w7 ⟨rfl, hx9⟩
  have hxx := hx8.trans hx9
  have X7 := X3.trans hxx
  have h27 := h2.ext X7
  clear hx4 hx5 hx6 hx7 hx8 hx9 hxx
  obtain ⟨lo, lc, rfl, hllen, hlc⟩ := h27.open
  go_wp2_with fail
  go_loop [15, 98] (fun sv i => ∃ k : Nat, k ≤ l.length ∧ i = .int .i64 k ∧ sv = .int .i64 0) (fun _ i => l.length - (intOf i).toNat)
  case atStart => exact ⟨0, Nat.zero_le _, rfl, rfl⟩
  case round =>
    obtain ⟨k, hk, rfl, rfl⟩ := hrel
    by_cases hlt : k < l.length
    · obtain ⟨x, hx1, _, _⟩ := get_lt hlt
      obtain ⟨b, off, rfl, hcx⟩ := hlc.at hx1
      go_wp2_with fail
      go_round
      case rel => exact ⟨k + 1, by omega, by go_num, rfl⟩
      case measure => simp [intOf]; omega
    · go_wp2_with fail
      go_ret
      exact ⟨rfl, X7⟩
end Go.Proofs.Ytllhgkacbpgemaa
