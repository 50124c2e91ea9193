/- walk of the reference: Canon -/
import Derived.Test.YtmmdfijjpeglgaaGreatDoorRatAE
namespace Go.Proofs.YtmmdfijjpeglgaaGreatDoor
open Go.RowKit
set_option linter.unusedVariables false

theorem ratT_zero : ratT 0 = ⟨#[48]⟩ := by decide +kernel
theorem isT_decT_zero (n : Nat) : ((decT n).toList == [48]) = decide (n = 0) := by
  by_cases h : n = 0
  · rw [decide_eq_true h, decT_zero_iff.2 h, Lib.toList_data]; rfl
  · rw [decide_eq_false h, beq_eq_false_iff_ne]
    intro e
    rw [Lib.toList_data] at e
    exact h (decT_zero_iff.1 (bytes_of_list e))
/-- the number of a sign and two numbers -/
def QF (neg : Bool) (n d : Nat) : Rat := Rat.divInt (sg neg n) (d : Int)
theorem QF_parts (neg : Bool) {n d : Nat} (hd : d ≠ 0) : (QF neg n d).num = sg neg (n / Nat.gcd n d) ∧ (QF neg n d).den = d / Nat.gcd n d := by
  have hz : (d : Int) ≠ 0 := by omega
  have h1 := frac_num (y := sg neg n) hz
  have h2 := frac_den (y := sg neg n) hz
  rw [sg_abs, Int.natAbs_natCast] at h1 h2
  refine ⟨?_, h2.symm⟩
  unfold QF
  rw [← h1, decide_eq_false (show ¬ ((d : Int) < 0) by omega), sg_neg]
  by_cases hn : 0 < n
  · rw [decide_eq_true hn]; simp
  · have : n = 0 := by omega
    subst this
    rw [Nat.zero_div]
    unfold sg
    cases neg <;> simp
theorem QF_RB (neg : Bool) {n d k : Nat} (hd : d ≠ 0) (h1 : n < 10 ^ k) (h2 : d < 10 ^ k) : RB k (QF neg n d) := by
  obtain ⟨p1, p2⟩ := QF_parts neg (n := n) hd
  refine ⟨?_, ?_⟩
  · rw [p1, sg_abs]; exact Nat.lt_of_le_of_lt (Nat.div_le_self ..) h1
  · rw [p2]; exact Nat.lt_of_le_of_lt (Nat.div_le_self ..) h2
theorem QF_zero (neg : Bool) (d : Nat) : QF neg 0 d = 0 := by
  unfold QF sg
  cases neg <;> simp
theorem QF_text (neg : Bool) {n d : Nat} (hd : d ≠ 0) (hn : n ≠ 0) :
    ratT (QF neg n d) = (let N := if neg = true then (⟨#[45]⟩ : ByteArray) ++ decT (n / Nat.gcd n d) else decT (n / Nat.gcd n d)
      if d / Nat.gcd n d = 1 then N else N ++ ⟨#[47]⟩ ++ decT (d / Nat.gcd n d)) := by
  obtain ⟨p1, p2⟩ := QF_parts neg (n := n) hd
  have hg : 0 < Nat.gcd n d := Nat.gcd_pos_of_pos_left _ (by omega)
  have hq : 0 < n / Nat.gcd n d := Nat.div_pos (Nat.le_of_dvd (by omega) (Nat.gcd_dvd_left ..)) hg
  generalize n / Nat.gcd n d = m at *
  unfold ratT signT
  rw [p1, p2, sg_abs]
  have hs : (sg neg m < 0) ↔ neg = true := by
    unfold sg
    cases neg <;> simp <;> omega
  simp only [hs, ByteArray.append_assoc]

set_option maxHeartbeats 1600000 in
set_option maxRecDepth 100000 in
theorem canon_zero (neg : Bool) (d : Nat) (w : World) :
    Calls Tryz.prog 83 #[.bool neg, .string ⟨#[48]⟩, .string (decT d)] w fun e w' => e = .returned (.string (ratT 0)) ∧ Ext w w' := by
  rw [ratT_zero]
  generalize decT d = D
  go_enter Tryz.func83, Tryz.ntmps83
  go_wp2_with fail
  go_ret
  exact ⟨rfl, Ext.refl _⟩

set_option maxHeartbeats 1600000 in
set_option maxRecDepth 100000 in
theorem canon_pos_one (N D G N2 D2 R1 R2 : ByteArray) (w : World) (hz : (N.toList == [48]) = false) (ho : (D2.toList == [49]) = true) (hs1 : (N2.size : Int) ≤ 4294967295) (hs2 : (D2.size : Int) ≤ 4294967295)
    (HG : Hid (∀ W, Calls Tryz.prog 78 #[.string N, .string D] W fun e w' => e = .returned (.string G) ∧ Ext W w'))
    (H1 : Hid (∀ W, Calls Tryz.prog 103 #[.string N, .string G] W fun e w' => e = .returned (.tuple #[.string N2, .string R1]) ∧ Ext W w'))
    (H2 : Hid (∀ W, Calls Tryz.prog 103 #[.string D, .string G] W fun e w' => e = .returned (.tuple #[.string D2, .string R2]) ∧ Ext W w')) :
    Calls Tryz.prog 83 #[.bool false, .string N, .string D] w fun e w' => e = .returned (.string N2) ∧ Ext w w' := by
  go_enter Tryz.func83, Tryz.ntmps83
  go_wp2_with fail
  refine (HG.out _).mono ?_
  rintro e w2 ⟨rfl, X2⟩
  go_wp2_with fail
  refine (H1.out _).mono ?_
  rintro e w3 ⟨rfl, X3⟩
  go_wp2_with fail
  refine (H2.out _).mono ?_
  rintro e w4 ⟨rfl, X4⟩
  go_wp2_with fail
  go_ret
  exact ⟨rfl, (X2.trans X3).trans X4⟩

set_option maxHeartbeats 1600000 in
set_option maxRecDepth 100000 in
theorem canon_pos_two (N D G N2 D2 R1 R2 : ByteArray) (w : World) (hz : (N.toList == [48]) = false) (ho : (D2.toList == [49]) = false) (hs1 : (N2.size : Int) ≤ 4294967295) (hs2 : (D2.size : Int) ≤ 4294967295)
    (HG : Hid (∀ W, Calls Tryz.prog 78 #[.string N, .string D] W fun e w' => e = .returned (.string G) ∧ Ext W w'))
    (H1 : Hid (∀ W, Calls Tryz.prog 103 #[.string N, .string G] W fun e w' => e = .returned (.tuple #[.string N2, .string R1]) ∧ Ext W w'))
    (H2 : Hid (∀ W, Calls Tryz.prog 103 #[.string D, .string G] W fun e w' => e = .returned (.tuple #[.string D2, .string R2]) ∧ Ext W w')) :
    Calls Tryz.prog 83 #[.bool false, .string N, .string D] w fun e w' => e = .returned (.string (N2 ++ ⟨#[47]⟩ ++ D2)) ∧ Ext w w' := by
  go_enter Tryz.func83, Tryz.ntmps83
  go_wp2_with fail
  refine (HG.out _).mono ?_
  rintro e w2 ⟨rfl, X2⟩
  go_wp2_with fail
  refine (H1.out _).mono ?_
  rintro e w3 ⟨rfl, X3⟩
  go_wp2_with fail
  refine (H2.out _).mono ?_
  rintro e w4 ⟨rfl, X4⟩
  go_wp2_with fail
  go_ret
  exact ⟨rfl, (X2.trans X3).trans X4⟩

set_option maxHeartbeats 1600000 in
set_option maxRecDepth 100000 in
theorem canon_neg_one (N D G N2 D2 R1 R2 : ByteArray) (w : World) (hz : (N.toList == [48]) = false) (ho : (D2.toList == [49]) = true) (hs1 : (N2.size : Int) ≤ 4294967295) (hs2 : (D2.size : Int) ≤ 4294967295)
    (HG : Hid (∀ W, Calls Tryz.prog 78 #[.string N, .string D] W fun e w' => e = .returned (.string G) ∧ Ext W w'))
    (H1 : Hid (∀ W, Calls Tryz.prog 103 #[.string N, .string G] W fun e w' => e = .returned (.tuple #[.string N2, .string R1]) ∧ Ext W w'))
    (H2 : Hid (∀ W, Calls Tryz.prog 103 #[.string D, .string G] W fun e w' => e = .returned (.tuple #[.string D2, .string R2]) ∧ Ext W w')) :
    Calls Tryz.prog 83 #[.bool true, .string N, .string D] w fun e w' => e = .returned (.string ((⟨#[45]⟩ : ByteArray) ++ N2)) ∧ Ext w w' := by
  go_enter Tryz.func83, Tryz.ntmps83
  go_wp2_with fail
  refine (HG.out _).mono ?_
  rintro e w2 ⟨rfl, X2⟩
  go_wp2_with fail
  refine (H1.out _).mono ?_
  rintro e w3 ⟨rfl, X3⟩
  go_wp2_with fail
  refine (H2.out _).mono ?_
  rintro e w4 ⟨rfl, X4⟩
  go_wp2_with fail
  go_ret
  exact ⟨rfl, (X2.trans X3).trans X4⟩

set_option maxHeartbeats 1600000 in
set_option maxRecDepth 100000 in
theorem canon_neg_two (N D G N2 D2 R1 R2 : ByteArray) (w : World) (hz : (N.toList == [48]) = false) (ho : (D2.toList == [49]) = false) (hs1 : (N2.size : Int) ≤ 4294967295) (hs2 : (D2.size : Int) ≤ 4294967295)
    (HG : Hid (∀ W, Calls Tryz.prog 78 #[.string N, .string D] W fun e w' => e = .returned (.string G) ∧ Ext W w'))
    (H1 : Hid (∀ W, Calls Tryz.prog 103 #[.string N, .string G] W fun e w' => e = .returned (.tuple #[.string N2, .string R1]) ∧ Ext W w'))
    (H2 : Hid (∀ W, Calls Tryz.prog 103 #[.string D, .string G] W fun e w' => e = .returned (.tuple #[.string D2, .string R2]) ∧ Ext W w')) :
    Calls Tryz.prog 83 #[.bool true, .string N, .string D] w fun e w' => e = .returned (.string (((⟨#[45]⟩ : ByteArray) ++ N2) ++ ⟨#[47]⟩ ++ D2)) ∧ Ext w w' := by
  go_enter Tryz.func83, Tryz.ntmps83
  go_wp2_with fail
  refine (HG.out _).mono ?_
  rintro e w2 ⟨rfl, X2⟩
  go_wp2_with fail
  refine (H1.out _).mono ?_
  rintro e w3 ⟨rfl, X3⟩
  go_wp2_with fail
  refine (H2.out _).mono ?_
  rintro e w4 ⟨rfl, X4⟩
  go_wp2_with fail
  go_ret
  exact ⟨rfl, (X2.trans X3).trans X4⟩

theorem canon_any (neg : Bool) (n d : Nat) (w : World) (hd : d ≠ 0) (k : Nat) (hk : k ≤ 800000) (hn1 : n < 10 ^ k) (hd1 : d < 10 ^ k) :
    Calls Tryz.prog 83 #[.bool neg, .string (decT n), .string (decT d)] w fun e w' => e = .returned (.string (ratT (QF neg n d))) ∧ Ext w w' := by
  by_cases hn : n = 0
  · subst hn
    rw [QF_zero, decT_zero_iff.2 rfl]
    exact canon_zero neg d w
  · have l1 := dd_len_le hn1
    have l2 := dd_len_le hd1
    have hg0 : 0 < Nat.gcd n d := Nat.gcd_pos_of_pos_left _ (by omega)
    have lg : (Lib.decDigits (Nat.gcd n d)).length ≤ k + 1 := dd_len_le (Nat.lt_of_le_of_lt (Nat.le_of_dvd (by omega) (Nat.gcd_dvd_left n d)) hn1)
    have HG := Lib.hid (fun W => rNatGcd_any n d W (by omega) (by omega))
    have H1 := Lib.hid (fun W => rNatDiv_any (decT n) (decT (Nat.gcd n d)) W (decT_allD _) (decT_canon _) (by rw [numB_decT]; omega) (by rw [decT_size]; omega) (by rw [decT_size]; omega))
    have H2 := Lib.hid (fun W => rNatDiv_any (decT d) (decT (Nat.gcd n d)) W (decT_allD _) (decT_canon _) (by rw [numB_decT]; omega) (by rw [decT_size]; omega) (by rw [decT_size]; omega))
    simp only [numB_decT] at H1 H2
    have hz : ((decT n).toList == [48]) = false := by rw [isT_decT_zero, decide_eq_false hn]
    have s1 : ((decT (n / Nat.gcd n d)).size : Int) ≤ 4294967295 := by
      have := dd_len_le (Nat.lt_of_le_of_lt (Nat.div_le_self n (Nat.gcd n d)) hn1)
      rw [decT_size]; omega
    have s2 : ((decT (d / Nat.gcd n d)).size : Int) ≤ 4294967295 := by
      have := dd_len_le (Nat.lt_of_le_of_lt (Nat.div_le_self d (Nat.gcd n d)) hd1)
      rw [decT_size]; omega
    rw [QF_text neg hd hn]
    by_cases h1 : d / Nat.gcd n d = 1
    · have ho : ((decT (d / Nat.gcd n d)).toList == [49]) = true := by rw [isT_decT_one, decide_eq_true h1]
      simp only [h1, if_true]
      rw [h1] at ho s2 H2
      cases neg
      · exact canon_pos_one _ _ _ _ _ _ _ w hz ho s1 s2 HG H1 H2
      · exact canon_neg_one _ _ _ _ _ _ _ w hz ho s1 s2 HG H1 H2
    · have ho : ((decT (d / Nat.gcd n d)).toList == [49]) = false := by rw [isT_decT_one, decide_eq_false h1]
      simp only [h1, if_false]
      cases neg
      · exact canon_pos_two _ _ _ _ _ _ _ w hz ho s1 s2 HG H1 H2
      · exact canon_neg_two _ _ _ _ _ _ _ w hz ho s1 s2 HG H1 H2
end Go.Proofs.YtmmdfijjpeglgaaGreatDoor
