/- walks: long; the law NatProducts -/
import Derived.Test.YtkfheeffbombhaaGreatDoorNtD
import Derived.Test.YtkfheeffbombhaaGreatDoorNtE
import Derived.Test.YtkfheeffbombhaaGreatDoorRtA
namespace Go.Proofs.YtkfheeffbombhaaGreatDoor
open Go.RowKit
set_option linter.unusedVariables false

theorem cell_new (w : World) (x : Value) (e : TypeId) : (w.alloc (.cells #[x] e)).cell? ⟨w.heap.size, 0, none⟩ = some x := by simp [World.cell?_alloc_new]
end Go.Proofs.YtkfheeffbombhaaGreatDoor
