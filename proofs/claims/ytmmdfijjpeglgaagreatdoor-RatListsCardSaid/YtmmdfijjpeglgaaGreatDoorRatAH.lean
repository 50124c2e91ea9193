/- the reference's rational arithmetic at texts of rational numbers -/
import Derived.Test.YtmmdfijjpeglgaaGreatDoorRatAG
namespace Go.Proofs.YtmmdfijjpeglgaaGreatDoor
open Go.RowKit
set_option linter.unusedVariables false

theorem QF_neg (a : Rat) : QF (!decide (a.num < 0)) a.num.natAbs a.den = -a := by
  have h : sg (!decide (a.num < 0)) a.num.natAbs = (-a).num := by
    rw [Rat.neg_num]
    unfold sg
    by_cases h : a.num < 0
    · rw [decide_eq_true h]; simp only [Bool.not_true, Bool.false_eq_true, if_false]; omega
    · rw [decide_eq_false h]; simp only [Bool.not_false, if_true]; omega
  unfold QF
  rw [h]
  exact Rat.num_divInt_den (-a)
theorem sg_mul (y z : Int) : sg (decide (y < 0) != decide (z < 0)) (y.natAbs * z.natAbs) = y * z := by
  unfold sg
  rcases (show y < 0 ∨ 0 ≤ y by omega) with hy | hy <;> rcases (show z < 0 ∨ 0 ≤ z by omega) with hz | hz
  · obtain ⟨m, rfl⟩ : ∃ m : Nat, y = -(m : Int) := ⟨y.natAbs, by omega⟩
    obtain ⟨n, rfl⟩ : ∃ n : Nat, z = -(n : Int) := ⟨z.natAbs, by omega⟩
    rw [decide_eq_true hy, decide_eq_true hz, Int.neg_mul_neg]
    simp
  · obtain ⟨m, rfl⟩ : ∃ m : Nat, y = -(m : Int) := ⟨y.natAbs, by omega⟩
    obtain ⟨n, rfl⟩ : ∃ n : Nat, z = (n : Int) := ⟨z.natAbs, by omega⟩
    rw [decide_eq_true hy, decide_eq_false (by omega), Int.neg_mul]
    simp
  · obtain ⟨m, rfl⟩ : ∃ m : Nat, y = (m : Int) := ⟨y.natAbs, by omega⟩
    obtain ⟨n, rfl⟩ : ∃ n : Nat, z = -(n : Int) := ⟨z.natAbs, by omega⟩
    rw [decide_eq_false (by omega), decide_eq_true hz, Int.mul_neg]
    simp
  · obtain ⟨m, rfl⟩ : ∃ m : Nat, y = (m : Int) := ⟨y.natAbs, by omega⟩
    obtain ⟨n, rfl⟩ : ∃ n : Nat, z = (n : Int) := ⟨z.natAbs, by omega⟩
    rw [decide_eq_false (by omega), decide_eq_false (by omega)]
    simp
theorem QF_mul (a b : Rat) : QF (decide (a.num < 0) != decide (b.num < 0)) (a.num.natAbs * b.num.natAbs) (a.den * b.den) = a * b := by
  unfold QF
  rw [sg_mul]
  exact rat_mul a b
theorem QF_div (a b : Rat) : QF (decide (a.num < 0) != decide (b.num < 0)) (a.num.natAbs * b.den) (a.den * b.num.natAbs) = a / b := by
  rw [← rat_div]
  unfold QF
  have hd := b.den_pos
  rcases (show b.num < 0 ∨ 0 ≤ b.num by omega) with hb | hb
  · have h := sg_mul a.num (-(b.den : Int))
    rw [Int.natAbs_neg, Int.natAbs_natCast, decide_eq_true (show -(b.den : Int) < 0 by omega)] at h
    rw [decide_eq_true hb, h, ← Rat.neg_divInt_neg (a.num * b.den), Int.mul_neg]
    congr 1
    rw [Int.natCast_mul, ← Int.neg_mul, Int.mul_comm]
    congr 1
    omega
  · have h := sg_mul a.num (b.den : Int)
    rw [Int.natAbs_natCast, decide_eq_false (show ¬ (b.den : Int) < 0 by omega)] at h
    rw [decide_eq_false (show ¬ b.num < 0 by omega), h]
    congr 1
    rw [Int.natCast_mul, Int.mul_comm]
    congr 1
    omega
theorem sign_scale (y : Int) {d : Nat} (hd : 0 < d) : decide (y * (d : Int) < 0) = decide (y < 0) := by
  have hi : (0 : Int) < (d : Int) := by omega
  rw [decide_eq_decide]
  constructor
  · intro h
    rcases (show y < 0 ∨ 0 ≤ y by omega) with h1 | h1
    · exact h1
    · have := Int.mul_nonneg h1 (Int.le_of_lt hi); omega
  · intro h
    exact Int.mul_neg_of_neg_of_pos h hi
theorem abs_scale (y : Int) (d : Nat) : (y * (d : Int)).natAbs = y.natAbs * d := by rw [Int.natAbs_mul, Int.natAbs_natCast]
theorem QF_same {a b : Rat} (h : decide (a.num < 0) = decide (b.num < 0)) : QF (decide (a.num < 0)) (a.num.natAbs * b.den + b.num.natAbs * a.den) (a.den * b.den) = a + b := by
  rw [← rat_add]
  unfold QF
  have := sg_add_same (y := a.num * b.den) (z := b.num * a.den) (by rw [sign_scale _ b.den_pos, sign_scale _ a.den_pos, h])
  rw [sign_scale _ b.den_pos, abs_scale, abs_scale] at this
  rw [this]
theorem QF_diff {a b : Rat} (h : decide (a.num < 0) ≠ decide (b.num < 0)) (hle : b.num.natAbs * a.den ≤ a.num.natAbs * b.den) : QF (decide (a.num < 0)) (a.num.natAbs * b.den - b.num.natAbs * a.den) (a.den * b.den) = a + b := by
  rw [← rat_add]
  unfold QF
  have := sg_add_diff (y := a.num * b.den) (z := b.num * a.den) (by rw [sign_scale _ b.den_pos, sign_scale _ a.den_pos]; exact h) (by rw [abs_scale, abs_scale]; exact hle)
  rw [sign_scale _ b.den_pos, abs_scale, abs_scale] at this
  rw [this]
theorem QF_swap {a b : Rat} (h : decide (a.num < 0) ≠ decide (b.num < 0)) (hle : a.num.natAbs * b.den ≤ b.num.natAbs * a.den) : QF (decide (b.num < 0)) (b.num.natAbs * a.den - a.num.natAbs * b.den) (a.den * b.den) = a + b := by
  have := QF_diff (a := b) (b := a) (fun e => h e.symm) hle
  rw [Nat.mul_comm a.den, this, Rat.add_comm]
theorem ediv_sg (n d : Nat) (hd : 0 < d) : (-(n : Int)) / (d : Int) = if n % d = 0 then -((n / d : Nat) : Int) else -((n / d + 1 : Nat) : Int) := by
  have hdi : (d : Int) ≠ 0 := by omega
  have hm := Nat.div_add_mod n d
  have hr := Nat.mod_lt n hd
  generalize n / d = q at *
  generalize n % d = r at *
  split
  · rename_i h0
    rw [show -(n : Int) = (d : Int) * (-(q : Int)) by rw [Int.mul_neg, ← Int.natCast_mul]; omega, Int.mul_ediv_cancel_left _ hdi]
  · rename_i h0
    rw [show -(n : Int) = ((d - r : Nat) : Int) + (d : Int) * (-((q + 1 : Nat) : Int)) by
      rw [Int.mul_neg, ← Int.natCast_mul, Nat.mul_add]; omega, Int.add_mul_ediv_left _ _ hdi, Int.ediv_eq_zero_of_lt (by omega) (by omega)]
    omega
theorem QF_one (neg : Bool) (n : Nat) : QF neg n 1 = ((sg neg n : Int) : Rat) := by
  obtain ⟨p1, p2⟩ := QF_parts neg (n := n) (d := 1) (by omega)
  rw [Nat.gcd_one_right, Nat.div_one] at p1 p2
  apply Rat.ext
  · rw [p1]; rfl
  · rw [p2]; rfl
theorem RB_divInt {z : Int} {d k : Nat} (hd : d ≠ 0) (h1 : z.natAbs < 10 ^ k) (h2 : d < 10 ^ k) : RB k (Rat.divInt z (d : Int)) := by
  have := QF_RB (decide (z < 0)) hd h1 h2
  unfold QF at this
  rwa [sg_of] at this
theorem pow_mul_lt {x y k m : Nat} (h1 : x < 10 ^ k) (h2 : y < 10 ^ m) : x * y < 10 ^ (k + m) := by
  rw [Nat.pow_add]; exact Nat.mul_lt_mul_of_lt_of_le h1 (Nat.le_of_lt h2) (Nat.pow_pos (by omega))
theorem pow_mono {x k m : Nat} (h : x < 10 ^ k) (hk : k ≤ m) : x < 10 ^ m := Nat.lt_of_lt_of_le h (Nat.pow_le_pow_right (by omega) hk)
theorem pow_add_lt {x y k : Nat} (h1 : x < 10 ^ k) (h2 : y < 10 ^ k) : x + y < 10 ^ (k + 1) := by rw [Nat.pow_succ]; omega
theorem den_mul_ne (a b : Rat) : a.den * b.den ≠ 0 := Nat.mul_ne_zero a.den_nz b.den_nz
theorem RB_add {k m : Nat} {a b : Rat} (ha : RB k a) (hb : RB m b) : RB (k + m + 1) (a + b) := by
  rw [← rat_add]
  refine RB_divInt (den_mul_ne a b) ?_ (pow_mono (pow_mul_lt ha.2 hb.2) (by omega))
  refine Nat.lt_of_le_of_lt (Int.natAbs_add_le ..) ?_
  rw [abs_scale, abs_scale]
  refine pow_add_lt (pow_mul_lt ha.1 hb.2) ?_
  rw [Nat.mul_comm]; exact pow_mul_lt ha.2 hb.1
theorem RB_neg {k : Nat} {a : Rat} (h : RB k a) : RB k (-a) := ⟨by rw [Rat.neg_num, Int.natAbs_neg]; exact h.1, h.2⟩
theorem RB_sub {k m : Nat} {a b : Rat} (ha : RB k a) (hb : RB m b) : RB (k + m + 1) (a - b) := by rw [Rat.sub_eq_add_neg]; exact RB_add ha (RB_neg hb)
theorem RB_mul {k m : Nat} {a b : Rat} (ha : RB k a) (hb : RB m b) : RB (k + m) (a * b) := by
  rw [← QF_mul]
  exact QF_RB _ (den_mul_ne a b) (pow_mul_lt ha.1 hb.1) (pow_mul_lt ha.2 hb.2)
theorem RB_div {k m : Nat} {a b : Rat} (hb0 : b.num ≠ 0) (ha : RB k a) (hb : RB m b) : RB (k + m) (a / b) := by
  rw [← QF_div]
  exact QF_RB _ (Nat.mul_ne_zero a.den_nz (by omega)) (pow_mul_lt ha.1 hb.2) (pow_mul_lt ha.2 hb.1)

theorem rDec_mul {n m k : Nat} (hk : k ≤ 800000) (h1 : n < 10 ^ k) (h2 : m < 10 ^ k) : Hid (∀ W, Calls Tryz.prog 84 #[.string (decT n), .string (decT m)] W fun e w' => e = .returned (.string (decT (n * m))) ∧ Ext W w') := fun W => by
  have l1 := dd_len_le h1
  have l2 := dd_len_le h2
  have := rNatMul_any (decT n) (decT m) W (decT_allD _) (decT_allD _) (by rw [decT_size]; omega) (by rw [decT_size]; omega)
  rwa [numB_decT, numB_decT] at this
theorem rDec_add {n m k : Nat} (hk : k ≤ 800000) (h1 : n < 10 ^ k) (h2 : m < 10 ^ k) : Hid (∀ W, Calls Tryz.prog 92 #[.string (decT n), .string (decT m)] W fun e w' => e = .returned (.string (decT (n + m))) ∧ Ext W w') := fun W => by
  have l1 := dd_len_le h1
  have l2 := dd_len_le h2
  have := rNatAdd_any (decT n) (decT m) W (decT_allD _) (decT_allD _) (by rw [decT_size]; omega) (by rw [decT_size]; omega)
  rwa [numB_decT, numB_decT] at this
theorem rDec_sub {n m k : Nat} (hk : k ≤ 800000) (h1 : n < 10 ^ k) (h2 : m < 10 ^ k) (hle : m ≤ n) : Hid (∀ W, Calls Tryz.prog 94 #[.string (decT n), .string (decT m)] W fun e w' => e = .returned (.string (decT (n - m))) ∧ Ext W w') := fun W => by
  have l1 := dd_len_le h1
  have l2 := dd_len_le h2
  have := rNatSub_any (decT n) (decT m) W (decT_allD _) (decT_allD _) (by rw [decT_size]; omega) (by rw [decT_size]; omega) (by rw [numB_decT, numB_decT]; exact hle)
  rwa [numB_decT, numB_decT] at this
theorem rDec_cmp {n m k : Nat} (hk : k ≤ 800000) (h1 : n < 10 ^ k) (h2 : m < 10 ^ k) : Hid (∀ W, Calls Tryz.prog 93 #[.string (decT n), .string (decT m)] W fun e w' => e = .returned (.int .i64 (cmpZ n m)) ∧ Ext W w') := fun W => by
  have l1 := dd_len_le h1
  have l2 := dd_len_le h2
  have := rNatCmp_any (decT n) (decT m) W (decT_canon _) (decT_canon _) (by rw [decT_size]; omega) (by rw [decT_size]; omega)
  rw [numB_decT, numB_decT] at this
  exact this.mono fun e w' ⟨h, hw⟩ => ⟨h, hw ▸ Ext.refl _⟩
theorem rDec_div {n m k : Nat} (hk : k ≤ 800000) (hm : m ≠ 0) (h1 : n < 10 ^ k) (h2 : m < 10 ^ k) : Hid (∀ W, Calls Tryz.prog 103 #[.string (decT n), .string (decT m)] W fun e w' => e = .returned (.tuple #[.string (decT (n / m)), .string (decT (n % m))]) ∧ Ext W w') := fun W => by
  have l1 := dd_len_le h1
  have l2 := dd_len_le h2
  have := rNatDiv_any (decT n) (decT m) W (decT_allD _) (decT_canon _) (by rw [numB_decT]; exact hm) (by rw [decT_size]; omega) (by rw [decT_size]; omega)
  rwa [numB_decT, numB_decT] at this
theorem rParts {q : Rat} {k : Nat} (hk : k ≤ 800000) (h : RB k q) : Hid (∀ W, Calls Tryz.prog 82 #[.string (ratT q)] W fun e w' => e = .returned (.tuple #[.bool (decide (q.num < 0)), .string (decT q.num.natAbs), .string (decT q.den)]) ∧ Ext W w') := fun W => rparts_any q W (by have := ratT_size h; omega)
theorem rCanon {n d k : Nat} (neg : Bool) (hk : k ≤ 800000) (hd : d ≠ 0) (h1 : n < 10 ^ k) (h2 : d < 10 ^ k) : Hid (∀ W, Calls Tryz.prog 83 #[.bool neg, .string (decT n), .string (decT d)] W fun e w' => e = .returned (.string (ratT (QF neg n d))) ∧ Ext W w') := fun W => canon_any neg n d W hd k hk h1 h2

theorem rNeg_any {a : Rat} {k : Nat} (hk : k ≤ 800000) (ha : RB k a) (w : World) : Calls Tryz.prog 29 #[.string (ratT a)] w fun e w' => e = .returned (.string (ratT (-a))) ∧ Ext w w' := by
  have := rneg_leaf _ _ _ _ _ w (rParts hk ha) (rCanon (!decide (a.num < 0)) hk a.den_nz ha.1 ha.2)
  rwa [QF_neg] at this
theorem rMul_any {a b : Rat} {k m : Nat} (hk : k + m ≤ 800000) (ha : RB k a) (hb : RB m b) (w : World) : Calls Tryz.prog 32 #[.string (ratT a), .string (ratT b)] w fun e w' => e = .returned (.string (ratT (a * b))) ∧ Ext w w' := by
  have ha2 := ha.mono (show k ≤ k + m by omega)
  have hb2 := hb.mono (show m ≤ k + m by omega)
  have := ratMul_leaf _ _ _ _ _ _ _ _ _ _ _ w (rParts hk ha2) (rParts hk hb2) (rDec_mul hk ha2.1 hb2.1) (rDec_mul hk ha2.2 hb2.2) (rCanon (decide (a.num < 0) != decide (b.num < 0)) hk (den_mul_ne a b) (pow_mul_lt ha.1 hb.1) (pow_mul_lt ha.2 hb.2))
  rwa [QF_mul] at this
theorem rDiv_any {a b : Rat} {k m : Nat} (hk : k + m ≤ 800000) (ha : RB k a) (hb : RB m b) (hb0 : b.num ≠ 0) (w : World) : Calls Tryz.prog 21 #[.string (ratT a), .string (ratT b)] w fun e w' => e = .returned (.string (ratT (a / b))) ∧ Ext w w' := by
  have ha2 := ha.mono (show k ≤ k + m by omega)
  have hb2 := hb.mono (show m ≤ k + m by omega)
  have := ratDiv_leaf _ _ _ _ _ _ _ _ _ _ _ w (rParts hk ha2) (rParts hk hb2) (rDec_mul hk ha2.1 hb2.2) (rDec_mul hk ha2.2 hb2.1) (rCanon (decide (a.num < 0) != decide (b.num < 0)) hk (Nat.mul_ne_zero a.den_nz (by omega)) (pow_mul_lt ha.1 hb.2) (pow_mul_lt ha.2 hb.1))
  rwa [QF_div] at this
theorem rAdd_any {a b : Rat} {k m : Nat} (hk : k + m + 1 ≤ 800000) (ha : RB k a) (hb : RB m b) (w : World) : Calls Tryz.prog 27 #[.string (ratT a), .string (ratT b)] w fun e w' => e = .returned (.string (ratT (a + b))) ∧ Ext w w' := by
  have ha2 := ha.mono (show k ≤ k + m + 1 by omega)
  have hb2 := hb.mono (show m ≤ k + m + 1 by omega)
  have hx := pow_mul_lt ha.1 hb.2
  have hy : b.num.natAbs * a.den < 10 ^ (k + m) := by rw [Nat.mul_comm]; exact pow_mul_lt ha.2 hb.1
  have hz := pow_mul_lt ha.2 hb.2
  have hx1 := pow_mono hx (show k + m ≤ k + m + 1 by omega)
  have hy1 := pow_mono hy (show k + m ≤ k + m + 1 by omega)
  have hz1 := pow_mono hz (show k + m ≤ k + m + 1 by omega)
  have hs := pow_add_lt hx hy
  have P1 := rParts hk ha2
  have P2 := rParts hk hb2
  have M1 := rDec_mul hk ha2.1 hb2.2
  have M2 := rDec_mul hk hb2.1 ha2.2
  have M3 := rDec_mul hk ha2.2 hb2.2
  have CM := rDec_cmp hk hx1 hy1
  by_cases h : decide (a.num < 0) = decide (b.num < 0)
  · have HA := rDec_add hk hx1 hy1
    have HC := rCanon (decide (a.num < 0)) hk (den_mul_ne a b) hs hz1
    rw [QF_same h] at HC
    rw [← h] at P2
    cases hb1 : decide (a.num < 0) <;> rw [hb1] at P1 P2 HC
    · exact radd_same_false _ _ _ _ _ _ _ _ _ _ _ w P1 P2 M1 M2 M3 HA HC
    · exact radd_same_true _ _ _ _ _ _ _ _ _ _ _ w P1 P2 M1 M2 M3 HA HC
  · by_cases hlt : a.num.natAbs * b.den < b.num.natAbs * a.den
    · have hc : cmpZ (a.num.natAbs * b.den) (b.num.natAbs * a.den) < 0 := by unfold cmpZ; rw [if_pos hlt]; omega
      have HA := rDec_sub hk hy1 hx1 (by omega)
      have HC := rCanon (decide (b.num < 0)) hk (den_mul_ne a b) (Nat.lt_of_le_of_lt (Nat.sub_le _ _) hy1 : b.num.natAbs * a.den - a.num.natAbs * b.den < _) hz1
      rw [QF_swap h (by omega)] at HC
      cases hb1 : decide (a.num < 0) <;> cases hb2' : decide (b.num < 0) <;> rw [hb1] at P1 h <;> rw [hb2'] at P2 HC h
      · exact absurd rfl h
      · exact radd_diff_false_less _ _ _ _ _ _ _ _ _ _ _ _ hc w P1 P2 M1 M2 M3 CM HA HC
      · exact radd_diff_true_less _ _ _ _ _ _ _ _ _ _ _ _ hc w P1 P2 M1 M2 M3 CM HA HC
      · exact absurd rfl h
    · have hc : 0 ≤ cmpZ (a.num.natAbs * b.den) (b.num.natAbs * a.den) := by unfold cmpZ; rw [if_neg hlt]; split <;> omega
      have HA := rDec_sub hk hx1 hy1 (by omega)
      have HC := rCanon (decide (a.num < 0)) hk (den_mul_ne a b) (Nat.lt_of_le_of_lt (Nat.sub_le _ _) hx1 : a.num.natAbs * b.den - b.num.natAbs * a.den < _) hz1
      rw [QF_diff h (by omega)] at HC
      cases hb1 : decide (a.num < 0) <;> cases hb2' : decide (b.num < 0) <;> rw [hb1] at P1 HC h <;> rw [hb2'] at P2 h
      · exact absurd rfl h
      · exact radd_diff_false_ge _ _ _ _ _ _ _ _ _ _ _ _ hc w P1 P2 M1 M2 M3 CM HA HC
      · exact radd_diff_true_ge _ _ _ _ _ _ _ _ _ _ _ _ hc w P1 P2 M1 M2 M3 CM HA HC
      · exact absurd rfl h
theorem rSub_any {a b : Rat} {k m : Nat} (hk : k + m + 1 ≤ 800000) (ha : RB k a) (hb : RB m b) (w : World) : Calls Tryz.prog 28 #[.string (ratT a), .string (ratT b)] w fun e w' => e = .returned (.string (ratT (a - b))) ∧ Ext w w' := by
  rw [Rat.sub_eq_add_neg]
  exact rsub_leaf _ _ _ _ w (fun W => rNeg_any (by omega) hb W) (fun W => rAdd_any hk ha (RB_neg hb) W)
theorem rSign_any {a : Rat} {k : Nat} (hk : k ≤ 800000) (ha : RB k a) (w : World) : Calls Tryz.prog 38 #[.string (ratT a)] w fun e w' => e = .returned (.int .i64 a.num.sign) ∧ Ext w w' := by
  refine rsign_leaf _ _ _ _ _ _ w rfl ?_ (rParts hk ha)
  rw [isT_decT_zero]
  simp only [decide_eq_true_eq]
  split
  · rename_i h
    rw [show a.num = 0 by omega]; rfl
  · split
    · rename_i h; exact Int.sign_eq_neg_one_of_neg h
    · exact Int.sign_eq_one_of_pos (by omega)
theorem rCmp_any {a b : Rat} {k m : Nat} (hk : k + m + 1 ≤ 800000) (ha : RB k a) (hb : RB m b) (w : World) : Calls Tryz.prog 37 #[.string (ratT a), .string (ratT b)] w fun e w' => e = .returned (.int .i64 (a - b).num.sign) ∧ Ext w w' :=
  rcmp_leaf _ _ _ _ w (fun W => rSub_any hk ha hb W) (fun W => rSign_any hk (RB_sub ha hb) W)
theorem rFloor_any {a : Rat} {k : Nat} (hk : k + 1 ≤ 800000) (ha : RB k a) (w : World) : Calls Tryz.prog 39 #[.string (ratT a)] w fun e w' => e = .returned (.string (ratT ((a.num / (a.den : Int) : Int) : Rat))) ∧ Ext w w' := by
  have ha2 := ha.mono (show k ≤ k + 1 by omega)
  have P := rParts hk ha2
  have D := rDec_div hk a.den_nz ha2.1 ha2.2
  have h1 : 1 < 10 ^ (k + 1) := by
    have := Nat.pow_pos (n := k) (show 0 < 10 by omega)
    rw [Nat.pow_succ]; omega
  have hq := Nat.lt_of_le_of_lt (Nat.div_le_self a.num.natAbs a.den) ha2.1
  have hq1 : a.num.natAbs / a.den + 1 < 10 ^ (k + 1) := by
    have h2 := Nat.lt_of_le_of_lt (Nat.div_le_self a.num.natAbs a.den) ha.1
    have := Nat.pow_pos (n := k) (show 0 < 10 by omega)
    rw [Nat.pow_succ]; omega
  have hd := a.den_pos
  by_cases hn : a.num < 0
  · rw [decide_eq_true hn] at P
    have he := ediv_sg a.num.natAbs a.den hd
    rw [show -(a.num.natAbs : Int) = a.num by omega] at he
    by_cases hr : a.num.natAbs % a.den = 0
    · have HC := rCanon true hk (show 1 ≠ 0 by omega) hq h1
      rw [QF_one, decT_one, show sg true (a.num.natAbs / a.den) = a.num / (a.den : Int) by rw [he, if_pos hr]; rfl] at HC
      exact rfloor_neg0 _ _ _ _ _ _ w (by rw [isT_decT_zero, decide_eq_true hr]) P D HC
    · have HC := rCanon true hk (show 1 ≠ 0 by omega) hq1 h1
      have HA := rDec_add hk hq h1
      rw [decT_one] at HA
      rw [QF_one, decT_one, show sg true (a.num.natAbs / a.den + 1) = a.num / (a.den : Int) by rw [he, if_neg hr]; rfl] at HC
      exact rfloor_neg1 _ _ _ _ _ _ _ w (by rw [isT_decT_zero, decide_eq_false hr]) P D HA HC
  · rw [decide_eq_false hn] at P
    have HC := rCanon false hk (show 1 ≠ 0 by omega) hq h1
    rw [QF_one, decT_one, show sg false (a.num.natAbs / a.den) = a.num / (a.den : Int) by
      rw [show sg false (a.num.natAbs / a.den) = ((a.num.natAbs / a.den : Nat) : Int) from rfl, Int.natCast_ediv, show (a.num.natAbs : Int) = a.num by omega]] at HC
    exact rfloor_pos _ _ _ _ _ _ w P D HC
end Go.Proofs.YtmmdfijjpeglgaaGreatDoor
