/- plain: one digit of a long division (the guess, multiply and subtract, add back) -/
import Derived.Test.YtecfphohmgbddaaGreatDoorBigL
namespace Go.Proofs.YtecfphohmgbddaaGreatDoor
set_option linter.unusedVariables false

theorem knuth_low {P a b ut vt q U V : Nat} (hU : U = a + P * ut) (hV : V = b + P * vt) (ha : a < P) (h : q * V ≤ U) : q * vt ≤ ut := by
  rcases Nat.lt_or_ge ut (q * vt) with h1 | h1
  · exfalso
    have h2 : P * (ut + 1) ≤ P * (q * vt) := Nat.mul_le_mul_left P h1
    have h3 : P * (q * vt) ≤ q * V := by
      rw [hV, Nat.mul_add, Nat.mul_left_comm P q vt]; omega
    rw [Nat.mul_add] at h2
    omega
  · exact h1

theorem knuth_high {P a b ut vt q g U V : Nat} (hU : U = a + P * ut) (hV : V = b + P * vt) (hb : b < P) (h : U < (q + 1) * V) (hg : g * vt ≤ ut) (hgv : g ≤ vt + 1) : g ≤ q + 1 := by
  rcases Nat.lt_or_ge (q + 1) g with h1 | h1
  · exfalso
    obtain ⟨m, rfl⟩ : ∃ m, g = m + 1 := ⟨g - 1, by omega⟩
    have h2 : (q + 1) * V ≤ m * V := Nat.mul_le_mul_right V (by omega)
    have h3 : m * V ≤ m * (P * (vt + 1)) := Nat.mul_le_mul_left m (by rw [hV, Nat.mul_add]; omega)
    have h4 : P * ((m + 1) * vt) ≤ P * ut := Nat.mul_le_mul_left P hg
    rw [Nat.mul_left_comm m P] at h3
    have h5 : P * ((m + 1) * vt) < P * (m * (vt + 1)) := by omega
    have h6 := Nat.lt_of_mul_lt_mul_left h5
    rw [Nat.add_mul, Nat.mul_add] at h6
    omega
  · exact h1

/-- multiply and subtract: the digits, the carry, the borrow -/
def mulSub (g : Nat) : List Nat → List Nat → Nat → Nat → List Nat × Nat × Nat
  | [], _, c, b => ([], c, b)
  | u :: us, vs, c, b =>
    let r := mulSub g us vs.tail ((c + g * vs.headD 0) / 4294967296) (bor u ((c + g * vs.headD 0) % 4294967296) b)
    ((u + 4294967296 - b - (c + g * vs.headD 0) % 4294967296) % 4294967296 :: r.1, r.2)

theorem mulSub_len (g : Nat) : ∀ (us vs : List Nat) (c b : Nat), (mulSub g us vs c b).1.length = us.length
  | [], _, _, _ => rfl
  | u :: us, vs, c, b => by simp only [mulSub, List.length_cons]; rw [mulSub_len]
theorem mulSub_dg (g : Nat) : ∀ (us vs : List Nat) (c b : Nat), Dg (mulSub g us vs c b).1
  | [], _, _, _ => Dg.nil
  | u :: us, vs, c, b => Dg.cons (Nat.mod_lt _ (by omega)) (mulSub_dg g us _ _ _)
theorem bor_le (d m b : Nat) : bor d m b ≤ 1 := by unfold bor; split <;> omega
theorem bor_eq {d m b : Nat} (hd : d < 4294967296) (hm : m < 4294967296) (hb : b ≤ 1) : d + 4294967296 * bor d m b = (d + 4294967296 - b - m) % 4294967296 + m + b := by
  unfold bor; split <;> omega
theorem mulSub_bor (g : Nat) : ∀ (us vs : List Nat) (c b : Nat), b ≤ 1 → (mulSub g us vs c b).2.2 ≤ 1
  | [], _, _, b, hb => hb
  | u :: us, vs, c, b, _ => mulSub_bor g us _ _ _ (bor_le _ _ _)

theorem val_head_tail (vs : List Nat) : val vs = vs.headD 0 + 4294967296 * val vs.tail := by
  cases vs with
  | nil => rfl
  | cons v vs => rfl

theorem mulSub_val (g : Nat) : ∀ (us vs : List Nat) (c b : Nat), Dg us → vs.length ≤ us.length → b ≤ 1 →
    val us + 4294967296 ^ us.length * ((mulSub g us vs c b).2.1 + (mulSub g us vs c b).2.2) = val (mulSub g us vs c b).1 + g * val vs + c + b
  | [], vs, c, b, _, h, _ => by
    have : vs = [] := List.eq_nil_of_length_eq_zero (by simpa using h)
    subst this; simp [mulSub, val]
  | u :: us, vs, c, b, hu, h, hb => by
    have hv := val_head_tail vs
    have ih := mulSub_val g us vs.tail ((c + g * vs.headD 0) / 4294967296) (bor u ((c + g * vs.headD 0) % 4294967296) b) hu.tail (by rw [List.length_tail]; simp at h; omega) (bor_le _ _ _)
    have e := bor_eq (m := (c + g * vs.headD 0) % 4294967296) hu.head (Nat.mod_lt _ (by omega)) hb
    simp only [mulSub, val, List.length_cons, Nat.pow_succ]
    rw [hv, Nat.mul_add g, Nat.mul_left_comm g 4294967296, Nat.mul_comm (4294967296 ^ us.length) 4294967296, Nat.mul_assoc]
    generalize (mulSub g us vs.tail ((c + g * vs.headD 0) / 4294967296) (bor u ((c + g * vs.headD 0) % 4294967296) b)) = R at *
    generalize 4294967296 ^ us.length * (R.2.1 + R.2.2) = X at *
    generalize g * vs.headD 0 = p at *
    generalize g * val vs.tail = p2 at *
    generalize bor u ((c + p) % 4294967296) b = bb at *
    omega

theorem mulSub_carry (g : Nat) : ∀ (us vs : List Nat) (c b : Nat), 4294967296 ^ us.length * (mulSub g us vs c b).2.1 ≤ c + g * val vs
  | [], vs, c, b => by simp [mulSub]
  | u :: us, vs, c, b => by
    have hv := val_head_tail vs
    have ih := mulSub_carry g us vs.tail ((c + g * vs.headD 0) / 4294967296) (bor u ((c + g * vs.headD 0) % 4294967296) b)
    simp only [mulSub, List.length_cons, Nat.pow_succ]
    rw [hv, Nat.mul_add g, Nat.mul_left_comm g 4294967296, Nat.mul_comm (4294967296 ^ us.length) 4294967296, Nat.mul_assoc]
    generalize (mulSub g us vs.tail ((c + g * vs.headD 0) / 4294967296) (bor u ((c + g * vs.headD 0) % 4294967296) b)) = R at *
    generalize 4294967296 ^ us.length * R.2.1 = X at *
    generalize g * vs.headD 0 = p at *
    generalize g * val vs.tail = p2 at *
    omega

/-- add back: the digits, the carry -/
def addN : List Nat → List Nat → Nat → List Nat × Nat
  | [], _, c => ([], c)
  | u :: us, vs, c =>
    let r := addN us vs.tail ((c + u + vs.headD 0) / 4294967296)
    ((c + u + vs.headD 0) % 4294967296 :: r.1, r.2)

theorem addN_len : ∀ (us vs : List Nat) (c : Nat), (addN us vs c).1.length = us.length
  | [], _, _ => rfl
  | u :: us, vs, c => by simp only [addN, List.length_cons]; rw [addN_len]
theorem addN_dg : ∀ (us vs : List Nat) (c : Nat), Dg (addN us vs c).1
  | [], _, _ => Dg.nil
  | u :: us, vs, c => Dg.cons (Nat.mod_lt _ (by omega)) (addN_dg us _ _)
theorem addN_val : ∀ (us vs : List Nat) (c : Nat), vs.length ≤ us.length → val us + val vs + c = val (addN us vs c).1 + 4294967296 ^ us.length * (addN us vs c).2
  | [], vs, c, h => by
    have : vs = [] := List.eq_nil_of_length_eq_zero (by simpa using h)
    subst this; simp [addN, val]
  | u :: us, vs, c, h => by
    have hv := val_head_tail vs
    have ih := addN_val us vs.tail ((c + u + vs.headD 0) / 4294967296) (by rw [List.length_tail]; simp at h; omega)
    simp only [addN, val, List.length_cons, Nat.pow_succ]
    rw [hv, Nat.mul_comm (4294967296 ^ us.length) 4294967296, Nat.mul_assoc]
    generalize (addN us vs.tail ((c + u + vs.headD 0) / 4294967296)) = R at *
    generalize 4294967296 ^ us.length * R.2 = X at *
    omega

/-- what the guess leaves: the digit of the quotient and the rest -/
theorem knuth_end {us vs : List Nat} {g : Nat} (hu : Dg us) (hv : Dg vs) (hl : us.length = vs.length + 1) (hg : g < 4294967296) (hV : 0 < val vs)
    (h1 : val us / val vs ≤ g) (h2 : g ≤ val us / val vs + 1) :
    ((mulSub g us vs 0 0).2.2 = 0 → g = val us / val vs ∧ val (mulSub g us vs 0 0).1 = val us % val vs) ∧
    ((mulSub g us vs 0 0).2.2 ≠ 0 → 1 ≤ g ∧ g - 1 = val us / val vs ∧ val (addN (mulSub g us vs 0 0).1 vs 0).1 = val us % val vs) := by
  have e1 := mulSub_val g us vs 0 0 hu (by omega) (by omega)
  have e2 := mulSub_carry g us vs 0 0
  have e3 := mulSub_bor g us vs 0 0 (by omega)
  have e4 := addN_val (mulSub g us vs 0 0).1 vs 0 (by rw [mulSub_len]; omega)
  have e5 := addN_dg (mulSub g us vs 0 0).1 vs 0
  have e6 := val_lt e5
  have e7 := val_lt (mulSub_dg g us vs 0 0)
  have e8 := val_lt hu
  have e9 := val_lt hv
  rw [addN_len, mulSub_len] at e6
  rw [mulSub_len] at e4 e7
  have hgV : g * val vs < 4294967296 ^ us.length := by
    rw [hl, Nat.pow_succ]
    calc g * val vs < 4294967296 * val vs := Nat.mul_lt_mul_of_pos_right hg hV
      _ ≤ 4294967296 * 4294967296 ^ vs.length := Nat.mul_le_mul_left _ (Nat.le_of_lt e9)
      _ = 4294967296 ^ vs.length * 4294967296 := Nat.mul_comm _ _
  have hVP : val vs < 4294967296 ^ us.length := Nat.lt_of_lt_of_le e9 (Nat.pow_le_pow_right (by omega) (by omega))
  have hP : 0 < 4294967296 ^ us.length := Nat.pow_pos (by omega)
  have hc : (mulSub g us vs 0 0).2.1 = 0 := by
    rcases Nat.eq_zero_or_pos (mulSub g us vs 0 0).2.1 with h | h
    · exact h
    · exfalso
      have := Nat.mul_le_mul_left (4294967296 ^ us.length) h
      omega
  rw [hc] at e1
  generalize (mulSub g us vs 0 0).2.2 = bb at *
  generalize hO : (mulSub g us vs 0 0).1 = O at *
  generalize (addN O vs 0).2 = cc at *
  generalize val (addN O vs 0).1 = R at *
  generalize 4294967296 ^ us.length = P at *
  have hq := Nat.div_add_mod (val us) (val vs)
  have hr := Nat.mod_lt (val us) hV
  generalize val us / val vs = q at *
  generalize val us % val vs = r at *
  generalize val us = U at *
  generalize val vs = V at *
  generalize val O = o at *
  constructor
  · intro hb
    subst hb
    have hgq : g ≤ q := by
      rcases Nat.lt_or_ge q g with h | h
      · exfalso
        have := Nat.mul_le_mul_right V (show q + 1 ≤ g from h)
        rw [Nat.add_mul, Nat.mul_comm q V] at this
        omega
      · exact h
    have : g = q := by omega
    subst this
    rw [Nat.mul_comm] at hq
    exact ⟨rfl, by omega⟩
  · intro hb
    have hb1 : bb = 1 := by omega
    subst hb1
    have hgq : g = q + 1 := by
      rcases Nat.lt_or_ge q g with h | h
      · omega
      · exfalso
        have := Nat.mul_le_mul_right V h
        rw [Nat.mul_comm q V] at this
        omega
    subst hgq
    rw [Nat.add_mul, Nat.mul_comm q V] at e1
    refine ⟨by omega, by omega, ?_⟩
    have h3 : R + P * cc = P + r := by omega
    have hcc : cc = 1 := by
      rcases Nat.lt_or_ge cc 1 with h | h
      · have : cc = 0 := by omega
        subst this; omega
      · rcases Nat.lt_or_ge 1 cc with h4 | h4
        · exfalso
          have := Nat.mul_le_mul_left P (show 2 ≤ cc from h4)
          omega
        · omega
    subst hcc
    omega

/-- the two top digits of the divisor and the three of the dividend -/
theorem val_top3 {us : List Nat} {n : Nat} (hl : us.length = n + 3) : val us = val (us.take n) + 4294967296 ^ n * (us.getD n 0 + 4294967296 * us.getD (n + 1) 0 + 18446744073709551616 * us.getD (n + 2) 0) := by
  have h1 : us = us.take n ++ us.drop n := (List.take_append_drop n us).symm
  have h2 : us.drop n = [us.getD n 0, us.getD (n + 1) 0, us.getD (n + 2) 0] := by
    apply List.ext_getElem
    · simp; omega
    · intro i h3 h4
      simp only [List.getElem_drop]
      match i with
      | 0 => simp [List.getD, List.getElem?_eq_getElem (show n < us.length by omega)]
      | 1 => simp [List.getD, List.getElem?_eq_getElem (show n + 1 < us.length by omega)]
      | 2 => simp [List.getD, List.getElem?_eq_getElem (show n + 2 < us.length by omega)]
      | i + 3 => simp at h4; omega
  have h3 : (us.take n).length = n := by simp; omega
  have h4 : val us = val (us.take n ++ us.drop n) := by rw [← h1]
  rw [h4, val_append, h2, h3]
  simp only [val]
  congr 2
  omega
theorem val_top2 {vs : List Nat} {n : Nat} (hl : vs.length = n + 2) : val vs = val (vs.take n) + 4294967296 ^ n * (vs.getD n 0 + 4294967296 * vs.getD (n + 1) 0) := by
  have h1 : vs = vs.take n ++ vs.drop n := (List.take_append_drop n vs).symm
  have h2 : vs.drop n = [vs.getD n 0, vs.getD (n + 1) 0] := by
    apply List.ext_getElem
    · simp; omega
    · intro i h3 h4
      simp only [List.getElem_drop]
      match i with
      | 0 => simp [List.getD, List.getElem?_eq_getElem (show n < vs.length by omega)]
      | 1 => simp [List.getD, List.getElem?_eq_getElem (show n + 1 < vs.length by omega)]
      | i + 2 => simp at h4; omega
  have h3 : (vs.take n).length = n := by simp; omega
  have h4 : val vs = val (vs.take n ++ vs.drop n) := by rw [← h1]
  rw [h4, val_append, h2, h3]
  simp only [val]
  congr 2

/-- the first guess is not too small; one that is too great by the top digits may be lessened; one that is not is at most one too great -/
theorem knuth_guess {us vs : List Nat} {n q : Nat} (hu : Dg us) (hv : Dg vs) (hlu : us.length = n + 3) (hlv : vs.length = n + 2) (hq : val us / val vs = q) (hV : 0 < val vs) :
    q * (vs.getD n 0 + 4294967296 * vs.getD (n + 1) 0) ≤ us.getD n 0 + 4294967296 * us.getD (n + 1) 0 + 18446744073709551616 * us.getD (n + 2) 0 ∧
    ∀ g, g * (vs.getD n 0 + 4294967296 * vs.getD (n + 1) 0) ≤ us.getD n 0 + 4294967296 * us.getD (n + 1) 0 + 18446744073709551616 * us.getD (n + 2) 0 → g < 4294967296 → 1 ≤ vs.getD (n + 1) 0 → g ≤ q + 1 := by
  have e1 := val_top3 hlu
  have e2 := val_top2 hlv
  have e3 := val_lt (hu.take n)
  have e4 := val_lt (hv.take n)
  have l1 : (us.take n).length = n := by simp; omega
  have l2 : (vs.take n).length = n := by simp; omega
  rw [l1] at e3
  rw [l2] at e4
  have hdm := Nat.div_add_mod (val us) (val vs)
  have hm := Nat.mod_lt (val us) hV
  rw [hq] at hdm
  refine ⟨knuth_low e1 e2 e3 ?_, fun g hg h1 h2 => knuth_high e1 e2 e4 ?_ hg (by omega)⟩
  · rw [Nat.mul_comm]; omega
  · rw [Nat.add_mul, Nat.mul_comm q]; omega
end Go.Proofs.YtecfphohmgbddaaGreatDoor
