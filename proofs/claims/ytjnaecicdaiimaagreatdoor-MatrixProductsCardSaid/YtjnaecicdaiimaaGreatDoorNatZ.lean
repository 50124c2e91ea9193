/- walks: long; the law NatProducts -/
import Derived.Test.YtjnaecicdaiimaaGreatDoorNtD
import Derived.Test.YtjnaecicdaiimaaGreatDoorNtE
import Derived.Test.YtjnaecicdaiimaaGreatDoorRtA
namespace Go.Proofs.YtjnaecicdaiimaaGreatDoor
open Go.RowKit
set_option linter.unusedVariables false

theorem lit_strs (w : World) (e : TypeId) (xs : List ByteArray) (h : xs.length ≤ 17592186044416) :
    Strs (w.alloc (.cells (xs.map Value.string).toArray e)) (.slice (some ⟨w.heap.size, 0, none⟩) xs.length xs.length) xs := by
  have := World.ownsRow_lit (base := w.heap.size) (e := e) (size := 1) w (xs.map Value.string).toArray xs.length (Nat.le_refl _) (by unfold maxLen; omega) (by simp)
  exact own_rowOf this h
theorem lit_strs_at (w : World) (e : TypeId) (xs : List ByteArray) (h : xs.length ≤ 17592186044416) (k : Nat) (hk : k = w.heap.size) :
    Strs (w.alloc (.cells (xs.map Value.string).toArray e)) (.slice (some ⟨k, 0, none⟩) xs.length xs.length) xs := by
  subst hk; exact lit_strs w e xs h

end Go.Proofs.YtjnaecicdaiimaaGreatDoor
