/- texts merged: RgB RgO RgQ -/
import Derived.Test.YtnfmknjhkpgppaaGreatDoorRgX
import Derived.Test.YtnfmknjhkpgppaaGreatDoorRgY
/- walk: historyError -/
namespace Go.Proofs.YtnfmknjhkpgppaaGreatDoor
open Go.RowKit
set_option linter.unusedVariables false

end Go.Proofs.YtnfmknjhkpgppaaGreatDoor
/- the law RegretMatches: its walks -/
namespace Go.Proofs.YtnfmknjhkpgppaaGreatDoor
open Go.RowKit
set_option linter.unusedVariables false

theorem lit_rows_one (w : World) (e : TypeId) {v : Value} {l : List ByteArray} (h : Strs w v l) (k : Nat) (hk : k = w.heap.size) :
    Rows Value.string (w.alloc (.cells #[v] e)) (.slice (some ⟨k, 0, none⟩) 1 1) [l] := by
  subst hk
  refine ⟨[v], ⟨_, _, rfl, ⟨fun e => (by cases e), Nat.le_refl _⟩, by simp, fun _ e => (by cases e), fun i u hu => ?_⟩, rfl, fun i u xs a b => ?_⟩
  · match i, hu with
    | 0, hu =>
      simp only [List.getElem?_cons_zero, Option.some.injEq] at hu
      subst hu
      exact ⟨_, _, rfl, by simp [go_sem]⟩
    | i + 1, hu => simp at hu
  · match i, a, b with
    | 0, a, b =>
      simp only [List.getElem?_cons_zero, Option.some.injEq] at a b
      subst a
      subst b
      exact h.ext ((Ext.refl w).alloc _)
    | i + 1, a, b => simp at a
end Go.Proofs.YtnfmknjhkpgppaaGreatDoor
/- the law RegretSums: its walks -/
namespace Go.Proofs.YtnfmknjhkpgppaaGreatDoor
open Go.RowKit
set_option linter.unusedVariables false

end Go.Proofs.YtnfmknjhkpgppaaGreatDoor
