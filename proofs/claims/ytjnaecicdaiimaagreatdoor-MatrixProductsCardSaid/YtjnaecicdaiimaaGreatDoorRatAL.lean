/- plain: the sum of a list, the first one of its greatest numbers, the texts 0 and 1 -/
import Derived.Test.YtjnaecicdaiimaaGreatDoorRtK
import Derived.Test.YtjnaecicdaiimaaGreatDoorRtH
namespace Go.Proofs.YtjnaecicdaiimaaGreatDoor
open Go.RowKit
set_option linter.unusedVariables false

theorem fits_RB {q : Rat} {k : Nat} (h : RB k q) (hk : k ≤ 1999) : fitsB q = true := by
  have h1 := dd_len_le h.1
  have h2 := dd_len_le h.2
  unfold fitsB
  rw [decide_eq_true (show (decT q.num.natAbs).size ≤ 2000 by rw [decT_size]; omega), decide_eq_true (show (decT q.den).size ≤ 2000 by rw [decT_size]; omega)]
  rfl
theorem RB_zero : RB 1 0 := ⟨by decide, by decide⟩
theorem cmpQ_gt (a b : Rat) : 0 < cmpQ a b ↔ b < a := by
  unfold cmpQ
  rw [Rat.lt_iff]
  generalize a.num * b.den = x
  generalize b.num * a.den = y
  rcases (show x - y < 0 ∨ x - y = 0 ∨ 0 < x - y by omega) with h | h | h
  · rw [Int.sign_eq_neg_one_of_neg h]; omega
  · rw [h]; simp; omega
  · rw [Int.sign_eq_one_of_pos h]; omega
/-- the first one of the greatest of the numbers from i up to n -/
structure Top (x : List Rat) (i n b : Nat) : Prop where
  le : i ≤ b
  lt : b < n
  all : ∀ j, i ≤ j → j < n → x.getD j 0 ≤ x.getD b 0
  first : ∀ j, i ≤ j → j < b → x.getD j 0 < x.getD b 0
theorem Top.one (x : List Rat) (i : Nat) : Top x i (i + 1) i :=
  ⟨by omega, by omega, fun j h1 h2 => by obtain rfl : j = i := by omega
                                         exact Rat.le_refl, fun j h1 h2 => by omega⟩
/-- one more at the end -/
theorem Top.up {x : List Rat} {i n b : Nat} (h : Top x i n b) (hc : ¬ 0 < cmpQ (x.getD n 0) (x.getD b 0)) : Top x i (n + 1) b :=
  ⟨h.le, by have := h.lt; omega, fun j h1 h2 => by
    by_cases hj : j < n
    · exact h.all j h1 hj
    · obtain rfl : j = n := by omega
      rw [cmpQ_gt] at hc
      exact Rat.not_lt.1 hc, h.first⟩
theorem outsG_RB {k : Nat} (hk : k ≤ 1999) : ∀ (qs : List Rat), (∀ q ∈ qs, RB k q) → outsG qs = some (qs.map ratT)
  | [], _ => rfl
  | q :: t, h => by
    rw [outsG, if_pos (fits_RB (h q (List.mem_cons_self ..)) hk), outsG_RB hk t (fun x hx => h x (List.mem_cons_of_mem _ hx))]
    rfl
end Go.Proofs.YtjnaecicdaiimaaGreatDoor
