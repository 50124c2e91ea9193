/- walks: long; the law NatProducts -/
import Derived.Test.YtjnaecicdaiimaaGreatDoorNtD
import Derived.Test.YtjnaecicdaiimaaGreatDoorNtE
import Derived.Test.YtjnaecicdaiimaaGreatDoorRtA
namespace Go.Proofs.YtjnaecicdaiimaaGreatDoor
open Go.RowKit
set_option linter.unusedVariables false

theorem cell_new (w : World) (x : Value) (e : TypeId) : (w.alloc (.cells #[x] e)).cell? ⟨w.heap.size, 0, none⟩ = some x := by simp [World.cell?_alloc_new]
theorem lit_strs (w : World) (e : TypeId) (xs : List ByteArray) (h : xs.length ≤ 17592186044416) :
    Strs (w.alloc (.cells (xs.map Value.string).toArray e)) (.slice (some ⟨w.heap.size, 0, none⟩) xs.length xs.length) xs := by
  have := World.ownsRow_lit (base := w.heap.size) (e := e) (size := 1) w (xs.map Value.string).toArray xs.length (Nat.le_refl _) (by unfold maxLen; omega) (by simp)
  exact own_rowOf this h
theorem lit_strs_at (w : World) (e : TypeId) (xs : List ByteArray) (h : xs.length ≤ 17592186044416) (k : Nat) (hk : k = w.heap.size) :
    Strs (w.alloc (.cells (xs.map Value.string).toArray e)) (.slice (some ⟨k, 0, none⟩) xs.length xs.length) xs := by
  subst hk; exact lit_strs w e xs h

theorem prod_lt240 {n m i j : Nat} (hn : n < 10 ^ i) (hm : m < 10 ^ j) (hi : i ≤ 120) (hj : j ≤ 120) : n * m < tenP (1999 + 1) := by
  have h1 : n < tenP 120 := Nat.lt_of_lt_of_le hn (tenP_le hi)
  have h2 : m < tenP 120 := Nat.lt_of_lt_of_le hm (tenP_le hj)
  have h3 : n * m ≤ n * tenP 120 := Nat.mul_le_mul_left n (Nat.le_of_lt h2)
  have h4 : n * tenP 120 < tenP 120 * tenP 120 := Nat.mul_lt_mul_of_pos_right h1 (tenP_pos 120)
  rw [tenP_add] at h4
  exact Nat.lt_of_lt_of_le (Nat.lt_of_le_of_lt h3 h4) (tenP_le (by omega))

end Go.Proofs.YtjnaecicdaiimaaGreatDoor
