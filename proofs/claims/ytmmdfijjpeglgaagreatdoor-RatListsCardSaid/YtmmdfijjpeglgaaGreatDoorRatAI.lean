/- texts of numbers: what fits; RatInt in full -/
import Derived.Test.YtmmdfijjpeglgaaGreatDoorRatAH
namespace Go.Proofs.YtmmdfijjpeglgaaGreatDoor
open Go.RowKit
set_option linter.unusedVariables false

theorem outF_fits {q : Rat} (h : fitsB q = true) : outF q = (ratT q, 0) := by unfold outF; rw [if_pos h]
theorem outF_RB {q : Rat} {k : Nat} (h : RB k q) (hk : k ≤ 1999) : outF q = (ratT q, 0) := by
  apply outF_fits
  have h1 := dd_len_le h.1
  have h2 := dd_len_le h.2
  unfold fitsB
  rw [decide_eq_true (show (decT q.num.natAbs).size ≤ 2000 by rw [decT_size]; omega), decide_eq_true (show (decT q.den).size ≤ 2000 by rw [decT_size]; omega)]
  rfl
theorem fits_ok {s : ByteArray} (h : RatOk s) : fitsB (ratOf s) = true := by
  obtain ⟨p1, p2⟩ := ratOf_parts h
  unfold fitsB
  rw [p1, p2, sg_abs, ← text_of h.n1, decide_eq_true h.n2]
  unfold denN
  by_cases hh : hasD s = true
  · rw [if_pos hh, ← text_of (h.d1 hh), decide_eq_true (h.d2 hh)]; rfl
  · rw [if_neg hh, decT_one]; rfl
theorem outF_ok {s : ByteArray} (h : RatOk s) : outF (ratOf s) = (s, 0) := by rw [outF_fits (fits_ok h), ← text_ratT h]
theorem outF_neg {s : ByteArray} (h : RatOk s) : outF (-ratOf s) = (ratT (-ratOf s), 0) := by
  apply outF_fits
  have := fits_ok h
  unfold fitsB at this ⊢
  rw [Rat.neg_num, Int.natAbs_neg]
  exact this
theorem ratT_int_nat (n : Nat) : ratT ((n : Int) : Rat) = decT n := by
  rw [ratT_abs, Rat.num_intCast, if_neg (by omega), absT_int _ (Rat.den_intCast _), Rat.num_intCast, Int.natAbs_natCast]
theorem ratT_int_neg (n : Nat) (hn : 0 < n) : ratT ((-(n : Int) : Int) : Rat) = ⟨#[45]⟩ ++ decT n := by
  rw [ratT_abs, Rat.num_intCast, if_pos (by omega), absT_int _ (Rat.den_intCast _), Rat.num_intCast, Int.natAbs_neg, Int.natAbs_natCast]
theorem int_min_text : ratT ((-9223372036854775808 : Int) : Rat) = ⟨#[45, 57, 50, 50, 51, 51, 55, 50, 48, 51, 54, 56, 53, 52, 55, 55, 53, 56, 48, 56]⟩ := by decide +kernel

set_option maxHeartbeats 1600000 in
set_option maxRecDepth 100000 in
theorem rInt_min (w : World) : Calls Tryz.prog 22 #[.int .i64 (-9223372036854775808)] w fun e w' => e = .returned (.string (ratT ((-9223372036854775808 : Int) : Rat))) ∧ Ext w w' := by
  rw [int_min_text]
  go_enter Tryz.func22, Tryz.ntmps22
  go_wp2_with fail
  go_ret
  exact ⟨rfl, Ext.refl _⟩

set_option maxHeartbeats 1600000 in
set_option maxRecDepth 100000 in
theorem rInt_neg (n : Nat) (w : World) (h0 : 0 < n) (hn : n ≤ 9223372036854775807) : Calls Tryz.prog 22 #[.int .i64 (-(n : Int))] w fun e w' => e = .returned (.string (ratT ((-(n : Int) : Int) : Rat))) ∧ Ext w w' := by
  rw [ratT_int_neg n h0]
  have HR := Lib.hid (fun W => ratInt_any n W hn)
  have hT : ((decT n).size : Int) ≤ 4294967295 := by
    have := dd_len_lt (n := n) (k := 18) (by show _ < 10000000000000000000; omega)
    rw [decT_size]; omega
  generalize decT n = T at *
  have hm : ¬ (0 : Int) ≤ -(n : Int) := by omega
  have hb : (-(n : Int) == -9223372036854775808) = false := by rw [beq_eq_false_iff_ne]; omega
  have hw : IntKind.i64.wrap (- -(n : Int)) = (n : Int) := by rw [Int.neg_neg]; exact IntWalk.i64_in _ (by omega)
  have hw2 : IntKind.i64.wrap (n : Int) = (n : Int) := IntWalk.i64_in _ (by omega)
  have hni : (n : Int) ≤ 9223372036854775807 := by omega
  have h0i : (0 : Int) < (n : Int) := by omega
  clear hn h0
  go_enter Tryz.func22, Tryz.ntmps22
  go_wp2_with fail
  refine (HR.out _).mono ?_
  rintro e w2 ⟨rfl, rfl⟩
  go_wp2_with fail
  go_ret
  exact ⟨rfl, Ext.refl _⟩
theorem rInt_any (n : Int) (w : World) (h1 : -9223372036854775808 ≤ n) (h2 : n ≤ 9223372036854775807) : Calls Tryz.prog 22 #[.int .i64 n] w fun e w' => e = .returned (.string (ratT (n : Rat))) ∧ Ext w w' := by
  by_cases h : 0 ≤ n
  · obtain ⟨m, rfl⟩ : ∃ m : Nat, n = (m : Int) := ⟨n.toNat, by omega⟩
    rw [ratT_int_nat]
    exact (ratInt_any m w (by omega)).mono fun e w' ⟨h, hw⟩ => ⟨h, hw ▸ Ext.refl _⟩
  · by_cases hm : n = -9223372036854775808
    · subst hm; exact rInt_min w
    · obtain ⟨m, rfl⟩ : ∃ m : Nat, n = -(m : Int) := ⟨n.natAbs, by omega⟩
      exact rInt_neg m w (by omega) (by omega)
theorem RB_int {n : Int} (h1 : -9223372036854775808 ≤ n) (h2 : n ≤ 9223372036854775807) : RB 19 (n : Rat) := by
  refine ⟨?_, ?_⟩
  · rw [Rat.num_intCast]; show _ < 10000000000000000000; omega
  · rw [Rat.den_intCast]; decide
theorem num_ne_zero {q : Rat} (h : q ≠ 0) : q.num ≠ 0 := fun e => h (Rat.num_eq_zero.1 e)
theorem isT_ratT_zero {s : ByteArray} (h : RatOk s) : (s.toList == [48]) = decide (ratOf s = 0) := by
  by_cases h0 : ratOf s = 0
  · rw [decide_eq_true h0]
    have := text_ratT h
    rw [h0, ratT_zero] at this
    rw [this, Lib.toList_data]; rfl
  · rw [decide_eq_false h0, beq_eq_false_iff_ne]
    intro e
    apply h0
    rw [Lib.toList_data] at e
    have : s = ⟨#[48]⟩ := bytes_of_list e
    rw [this]
    decide +kernel
theorem cmpQ_sub (a b : Rat) : (a - b).num.sign = cmpQ a b := by
  have h1 : a - b = QF (decide (a.num * b.den - b.num * a.den < 0)) (a.num * b.den - b.num * a.den).natAbs (a.den * b.den) := by
    unfold QF
    rw [sg_of, Rat.sub_eq_add_neg, ← rat_add, Rat.neg_num, Rat.neg_den, Int.neg_mul, Int.sub_eq_add_neg]
  unfold cmpQ
  generalize a.num * b.den - b.num * a.den = z at *
  obtain ⟨p1, _⟩ := QF_parts (decide (z < 0)) (n := z.natAbs) (den_mul_ne a b)
  rw [h1, p1]
  rcases (show z < 0 ∨ z = 0 ∨ 0 < z by omega) with h | h | h
  · have hg := Nat.gcd_pos_of_pos_left (a.den * b.den) (show 0 < z.natAbs by omega)
    have hq : 0 < z.natAbs / Nat.gcd z.natAbs (a.den * b.den) := Nat.div_pos (Nat.le_of_dvd (by omega) (Nat.gcd_dvd_left ..)) hg
    rw [Int.sign_eq_neg_one_of_neg h, decide_eq_true h]
    exact Int.sign_eq_neg_one_of_neg (by unfold sg; rw [if_pos rfl]; omega)
  · subst h
    rw [Int.natAbs_zero, Nat.zero_div]; rfl
  · have hg := Nat.gcd_pos_of_pos_left (a.den * b.den) (show 0 < z.natAbs by omega)
    have hq : 0 < z.natAbs / Nat.gcd z.natAbs (a.den * b.den) := Nat.div_pos (Nat.le_of_dvd (by omega) (Nat.gcd_dvd_left ..)) hg
    rw [Int.sign_eq_one_of_pos h, decide_eq_false (by omega)]
    exact Int.sign_eq_one_of_pos (by unfold sg; rw [if_neg (by simp)]; omega)
theorem RB_floor {a : Rat} {k : Nat} (h : RB k a) : RB (k + 1) ((a.num / (a.den : Int) : Int) : Rat) := by
  refine ⟨?_, ?_⟩
  · rw [Rat.num_intCast]
    exact pow_mono (Nat.lt_of_le_of_lt (Int.natAbs_ediv_le_natAbs ..) h.1) (by omega)
  · rw [Rat.den_intCast]
    have := Nat.pow_pos (n := k) (show 0 < 10 by omega)
    rw [Nat.pow_succ]; omega
end Go.Proofs.YtmmdfijjpeglgaaGreatDoor
