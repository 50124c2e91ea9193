/- plain: the sum of a list, the first one of its greatest numbers, the texts 0 and 1 -/
import Derived.Test.YtjnaecicdaiimaaGreatDoorRtK
import Derived.Test.YtjnaecicdaiimaaGreatDoorRtH
namespace Go.Proofs.YtjnaecicdaiimaaGreatDoor
open Go.RowKit
set_option linter.unusedVariables false

theorem fits_RB {q : Rat} {k : Nat} (h : RB k q) (hk : k ≤ 1999) : fitsB q = true := by
  have h1 := dd_len_le h.1
  have h2 := dd_len_le h.2
  unfold fitsB
  rw [decide_eq_true (show (decT q.num.natAbs).size ≤ 2000 by rw [decT_size]; omega), decide_eq_true (show (decT q.den).size ≤ 2000 by rw [decT_size]; omega)]
  rfl
/-- the sum of a list, from its end -/
def sumQ : List Rat → Rat
  | [] => 0
  | q :: t => q + sumQ t
theorem RB_zero : RB 1 0 := ⟨by decide, by decide⟩
theorem sumQ_RB {k : Nat} : ∀ (qs : List Rat), (∀ q ∈ qs, RB k q) → RB ((k + 1) * qs.length + 1) (sumQ qs)
  | [], _ => RB_zero.mono (by omega)
  | q :: t, h => by
    have h1 := sumQ_RB t (fun x hx => h x (List.mem_cons_of_mem _ hx))
    have h2 := RB_add (h q (List.mem_cons_self ..)) h1
    refine h2.mono ?_
    rw [List.length_cons, Nat.mul_succ]; omega
theorem sumG_eq {k : Nat} : ∀ (qs : List Rat) (acc : Rat) (m : Nat), RB m acc → (∀ q ∈ qs, RB k q) → m + (k + 1) * qs.length ≤ 1999 → sumG acc qs = (acc + sumQ qs, 0)
  | [], acc, m, _, _, _ => by rw [sumG, sumQ, Rat.add_zero]
  | q :: t, acc, m, ha, h, hm => by
    rw [List.length_cons, Nat.mul_succ] at hm
    have h2 := RB_add ha (h q (List.mem_cons_self ..))
    rw [sumG, if_pos (fits_RB h2 (by omega)), sumG_eq t _ _ h2 (fun x hx => h x (List.mem_cons_of_mem _ hx)) (by omega), sumQ, Rat.add_assoc]
theorem cmpQ_gt (a b : Rat) : 0 < cmpQ a b ↔ b < a := by
  unfold cmpQ
  rw [Rat.lt_iff]
  generalize a.num * b.den = x
  generalize b.num * a.den = y
  rcases (show x - y < 0 ∨ x - y = 0 ∨ 0 < x - y by omega) with h | h | h
  · rw [Int.sign_eq_neg_one_of_neg h]; omega
  · rw [h]; simp; omega
  · rw [Int.sign_eq_one_of_pos h]; omega
theorem cmpQ_ge (a b : Rat) : 0 ≤ cmpQ a b ↔ b ≤ a := by
  unfold cmpQ
  rw [Rat.le_iff]
  generalize a.num * b.den = x
  generalize b.num * a.den = y
  rcases (show x - y < 0 ∨ x - y = 0 ∨ 0 < x - y by omega) with h | h | h
  · rw [Int.sign_eq_neg_one_of_neg h]; omega
  · rw [h]; simp; omega
  · rw [Int.sign_eq_one_of_pos h]; omega
/-- the first one of the greatest of the numbers from i up to n -/
structure Top (x : List Rat) (i n b : Nat) : Prop where
  le : i ≤ b
  lt : b < n
  all : ∀ j, i ≤ j → j < n → x.getD j 0 ≤ x.getD b 0
  first : ∀ j, i ≤ j → j < b → x.getD j 0 < x.getD b 0
theorem Top.unique {x : List Rat} {i n b c : Nat} (h : Top x i n b) (h2 : Top x i n c) : b = c := by
  rcases (show b < c ∨ b = c ∨ c < b by omega) with hh | hh | hh
  · exact absurd (h2.first b h.le hh) (Rat.not_lt.2 (h.all c h2.le h2.lt))
  · exact hh
  · exact absurd (h.first c h2.le hh) (Rat.not_lt.2 (h2.all b h.le h.lt))
theorem Top.one (x : List Rat) (i : Nat) : Top x i (i + 1) i :=
  ⟨by omega, by omega, fun j h1 h2 => by obtain rfl : j = i := by omega
                                         exact Rat.le_refl, fun j h1 h2 => by omega⟩
theorem rat_lt_of_le_of_lt {a b c : Rat} (h1 : a ≤ b) (h2 : b < c) : a < c := by
  refine Rat.not_le.1 fun h => ?_
  exact absurd h2 (Rat.not_lt.2 (Rat.le_trans h h1))
/-- one more at the end -/
theorem Top.up {x : List Rat} {i n b : Nat} (h : Top x i n b) (hc : ¬ 0 < cmpQ (x.getD n 0) (x.getD b 0)) : Top x i (n + 1) b :=
  ⟨h.le, by have := h.lt; omega, fun j h1 h2 => by
    by_cases hj : j < n
    · exact h.all j h1 hj
    · obtain rfl : j = n := by omega
      rw [cmpQ_gt] at hc
      exact Rat.not_lt.1 hc, h.first⟩
theorem Top.up' {x : List Rat} {i n b : Nat} (h : Top x i n b) (hc : 0 < cmpQ (x.getD n 0) (x.getD b 0)) : Top x i (n + 1) n :=
  ⟨by have := h.lt; have := h.le; omega, by omega, fun j h1 h2 => by
    rw [cmpQ_gt] at hc
    by_cases hj : j < n
    · exact Rat.le_trans (h.all j h1 hj) (Rat.le_of_lt hc)
    · obtain rfl : j = n := by omega
      exact Rat.le_refl, fun j h1 h2 => by
    rw [cmpQ_gt] at hc
    exact rat_lt_of_le_of_lt (h.all j h1 h2) hc⟩
/-- one more at the beginning -/
theorem Top.down {x : List Rat} {i n b : Nat} (h : Top x (i + 1) n b) (hc : ¬ 0 ≤ cmpQ (x.getD i 0) (x.getD b 0)) : Top x i n b := by
  rw [cmpQ_ge] at hc
  have hc := Rat.not_le.1 hc
  refine ⟨by have := h.le; omega, h.lt, fun j h1 h2 => ?_, fun j h1 h2 => ?_⟩
  · by_cases hj : j = i
    · subst hj; exact Rat.le_of_lt hc
    · exact h.all j (by omega) h2
  · by_cases hj : j = i
    · subst hj; exact hc
    · exact h.first j (by omega) h2
theorem Top.down' {x : List Rat} {i n b : Nat} (h : Top x (i + 1) n b) (hc : 0 ≤ cmpQ (x.getD i 0) (x.getD b 0)) : Top x i n i := by
  rw [cmpQ_ge] at hc
  refine ⟨by omega, by have := h.lt; have := h.le; omega, fun j h1 h2 => ?_, fun j h1 h2 => by omega⟩
  by_cases hj : j = i
  · subst hj; exact Rat.le_refl
  · exact Rat.le_trans (h.all j (by omega) h2) hc
theorem bestG_top (x : List Rat) : ∀ (t : List Rat) (i b : Nat), t = x.drop i → i ≤ x.length → (i = 0 ∧ b = 0 ∧ 0 < x.length ∨ Top x 0 i b) → Top x 0 x.length (bestG x t i b)
  | [], i, b, ht, hi, h => by
    have : i = x.length := by
      have := congrArg List.length ht
      rw [List.length_nil, List.length_drop] at this; omega
    subst this
    rw [bestG]
    rcases h with ⟨h1, h2, h3⟩ | h
    · omega
    · exact h
  | q :: t, i, b, ht, hi, h => by
    have hlt : i < x.length := by
      have := congrArg List.length ht
      rw [List.length_cons, List.length_drop] at this; omega
    have hq : x.getD i 0 = q := by
      rw [List.getD_eq_getElem?_getD, ← List.head?_drop, ← ht]; rfl
    have ht2 : t = x.drop (i + 1) := by
      rw [← List.tail_drop, ← ht]; rfl
    rw [bestG]
    rcases h with ⟨rfl, rfl, h3⟩ | h
    · rw [if_neg]
      · exact bestG_top x t 1 0 ht2 hlt (.inr (Top.one x 0))
      · rw [hq, cmpQ_gt]; exact Rat.lt_irrefl
    · by_cases hc : 0 < cmpQ q (x.getD b 0)
      · rw [if_pos hc]
        exact bestG_top x t (i + 1) i ht2 hlt (.inr (h.up' (by rw [hq]; exact hc)))
      · rw [if_neg hc]
        exact bestG_top x t (i + 1) b ht2 hlt (.inr (h.up (by rw [hq]; exact hc)))
theorem bestG_eq {x : List Rat} {b : Nat} (h : Top x 0 x.length b) : bestG x x 0 0 = b :=
  (bestG_top x x 0 0 rfl (by omega) (.inl ⟨rfl, rfl, by have := h.lt; omega⟩)).unique h
theorem ratT_is {c : UInt8} {k : Nat} (hk : ∀ n, decT n = ⟨#[c]⟩ ↔ n = k) (hc : c ≠ 45) (q : Rat) : ((ratT q).toList == [c]) = decide (q = ((k : Int) : Rat)) := by
  rw [Bool.eq_iff_iff, beq_iff_eq, decide_eq_true_eq, Lib.toList_data, ratT_abs]
  constructor
  · intro h
    split at h
    · rw [bytes_data_append] at h
      exact absurd (List.cons.inj h).1.symm hc
    · rename_i hn
      rw [absT_data] at h
      by_cases hd : q.den = 1
      · rw [if_pos hd, List.append_nil] at h
        have h2 : decT q.num.natAbs = ⟨#[c]⟩ := bytes_of_list (by rw [decT_bytes]; exact h)
        have h3 := (hk _).1 h2
        apply Rat.ext
        · rw [Rat.num_intCast]; omega
        · rw [Rat.den_intCast]; exact hd
      · rw [if_neg hd] at h
        have hl := congrArg List.length h
        have hp := List.length_pos_iff.2 (dd_ne q.num.natAbs)
        rw [List.length_append, List.length_cons, List.length_singleton] at hl
        omega
  · rintro rfl
    rw [Rat.num_intCast, if_neg (by omega), absT_int _ (Rat.den_intCast _), Rat.num_intCast, Int.natAbs_natCast, (hk k).2 rfl]
theorem ratT_is0 (q : Rat) : ((ratT q).toList == [48]) = decide (q = 0) := ratT_is (k := 0) (fun n => decT_zero_iff) (by decide) q
theorem ratT_is1 (q : Rat) : ((ratT q).toList == [49]) = decide (q = ((1 : Int) : Rat)) := ratT_is (k := 1) (fun n => decT_one_iff) (by decide) q
theorem negB_num {s : ByteArray} (h : RatOk s) : negB s = decide ((ratOf s).num < 0) := by
  obtain ⟨p1, _⟩ := ratOf_parts h
  rw [p1]
  cases hn : negB s with
  | false => exact (decide_eq_false (by unfold sg; rw [if_neg (by simp)]; omega)).symm
  | true =>
    have := h.ng hn
    exact (decide_eq_true (by unfold sg; rw [if_pos rfl]; omega)).symm
theorem cmpQ_zero (a b : Rat) : cmpQ a b = 0 ↔ a = b := by
  unfold cmpQ
  rw [Int.sign_eq_zero_iff_zero, Rat.eq_iff_mul_eq_mul]
  omega
/-- is one of the numbers negative? -/
def anyQ (qs : List Rat) : Bool := qs.any fun q => decide (q.num < 0)
theorem anyNeg_eq {l : List ByteArray} (h : ∀ s ∈ l, RatOk s) : anyNeg l = anyQ (l.map ratOf) := by
  unfold anyNeg anyQ
  induction l with
  | nil => rfl
  | cons s t ih =>
    rw [List.map_cons, List.any_cons, List.any_cons, negB_num (h s (List.mem_cons_self ..)), ih (fun x hx => h x (List.mem_cons_of_mem _ hx))]
theorem posL_short {l : List ByteArray} (hl : l.length ≤ 12) (he : errsL l = 0) (hq : ∀ q ∈ l.map ratOf, RB 60 q) : posL l = (sumQ (l.map ratOf), if anyQ (l.map ratOf) = true then 4 else 0) ∧ (sumL l).2 = 0 ∧ (sumL l).1 = sumQ (l.map ratOf) := by
  have hs : sumL l = (sumQ (l.map ratOf), 0) := by
    unfold sumL
    rw [if_neg (by omega), if_neg (by simpa using he), sumG_eq (k := 60) (l.map ratOf) 0 1 RB_zero hq (by rw [List.length_map]; omega), Rat.zero_add]
  refine ⟨?_, by rw [hs], by rw [hs]⟩
  unfold posL
  rw [hs, anyNeg_eq (fun s hs2 => ratErr_ok (errsL_zero he s hs2))]
  simp
theorem outsG_RB {k : Nat} (hk : k ≤ 1999) : ∀ (qs : List Rat), (∀ q ∈ qs, RB k q) → outsG qs = some (qs.map ratT)
  | [], _ => rfl
  | q :: t, h => by
    rw [outsG, if_pos (fits_RB (h q (List.mem_cons_self ..)) hk), outsG_RB hk t (fun x hx => h x (List.mem_cons_of_mem _ hx))]
    rfl
end Go.Proofs.YtjnaecicdaiimaaGreatDoor
