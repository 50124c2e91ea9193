/- plain laws of averages and bounds -/
import Derived.Test.YtjnaecicdaiimaaGreatDoorRgR
namespace Go.Proofs.YtjnaecicdaiimaaGreatDoor
open Go.RowKit
set_option linter.unusedVariables false

theorem dotQ_div (n : Rat) : ∀ (qs rs : List Rat), dotQ qs (rs.map (· / n)) = dotQ qs rs / n
  | [], rs => by
    have h : ∀ l, dotQ [] l = 0 := fun l => by unfold dotQ; rfl
    rw [h, h, Rat.div_def, Rat.zero_mul]
  | q :: t, [] => by
    show (0 : Rat) = 0 / n
    rw [Rat.div_def, Rat.zero_mul]
  | q :: t, r :: s => by
    show q * (r / n) + dotQ t (s.map (· / n)) = (q * r + dotQ t s) / n
    rw [dotQ_div n t s, Rat.div_def, Rat.div_def, Rat.div_def, Rat.add_mul, Rat.mul_assoc]
theorem div_lt_div_pos {a b n : Rat} (hn : 0 < n) : a / n < b / n ↔ a < b := by
  have h : 0 < n⁻¹ := Rat.inv_pos.2 hn
  rw [Rat.div_def, Rat.div_def]
  exact Rat.mul_lt_mul_right h
theorem cmpQ_lt (a b : Rat) : cmpQ a b < 0 ↔ a < b := by
  have := cmpQ_ge a b
  constructor
  · intro h
    exact Rat.not_le.1 fun h2 => by have := this.2 h2; omega
  · intro h
    have h2 : ¬ 0 ≤ cmpQ a b := fun h3 => Rat.not_le.2 h (this.1 h3)
    omega
theorem up_div {a b n : Rat} (hn : 0 < n) : 0 < cmpQ (a / n) (b / n) ↔ 0 < cmpQ a b * 1 := by
  rw [cmpQ_gt, Int.mul_one, cmpQ_gt]; exact div_lt_div_pos hn
theorem down_div {a b n : Rat} (hn : 0 < n) : cmpQ (a / n) (b / n) < 0 ↔ 0 < cmpQ a b * (-1) := by
  rw [cmpQ_lt, div_lt_div_pos hn, ← cmpQ_lt]; omega
theorem avgRows_get {m : List (List ByteArray)} {ps : List (Int × Int)} {i : Nat} {n : Int} (h : (cntF (·.1) ps m.length)[i]? = some n) : (avgRows m ps)[i]? = some ((n : Rat) / ((ps.length : Int) : Rat)) := by
  unfold avgRows ratsI
  rw [List.getElem?_map, List.getElem?_map, h]
  rfl
theorem avgCols_get {m : List (List ByteArray)} {ps : List (Int × Int)} {i : Nat} {n : Int} (h : (cntF (·.2) ps (wideL m))[i]? = some n) : (avgCols m ps)[i]? = some ((n : Rat) / ((ps.length : Int) : Rat)) := by
  unfold avgCols ratsI
  rw [List.getElem?_map, List.getElem?_map, h]
  rfl
theorem row_dot {m : List (List ByteArray)} {ps : List (Int × Int)} {i : Nat} {l : List ByteArray} (h : m[i]? = some l) : dotQ (l.map ratOf) (avgCols m ps) = (rowsS m ps).getD i 0 / ((ps.length : Int) : Rat) := by
  unfold avgCols rowsS numM
  rw [dotQ_div, List.getD_eq_getElem?_getD, List.getElem?_map, List.getElem?_map, h]
  rfl
theorem col_dot {m : List (List ByteArray)} {ps : List (Int × Int)} {k : Nat} (h : k < wideL m) : dotQ (colQ (numM m) k) (avgRows m ps) = (colsS m ps).getD k 0 / ((ps.length : Int) : Rat) := by
  unfold avgRows colsS colsQ
  rw [dotQ_div, List.getD_eq_getElem?_getD, List.getElem?_map, List.getElem?_map, List.getElem?_range h]
  rfl
end Go.Proofs.YtjnaecicdaiimaaGreatDoor
