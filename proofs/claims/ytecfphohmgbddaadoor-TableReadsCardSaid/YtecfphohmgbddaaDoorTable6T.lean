/- what the walks of tables share -/
import Derived.Test.YtecfphohmgbddaaDoorTable6
namespace Go.Proofs.YtecfphohmgbddaaDoor
open Go.RowKit
set_option linter.unusedVariables false

def TFact (w : World) : Prop := Calls Tryd.prog 4 #[] w fun e w' => e = .returned (.bool true) ∧ Ext w w'
theorem tabPow_ext {w w' : World} (h : TabPow w) (he : Ext w w') : TabPow w' := Lib.tabBelow_of_tabIs h w' he

theorem box_cell0 (w : World) (T : TypeId) (x y : Value) : (w.alloc (.cells #[x, y] T)).cell? ⟨w.heap.size, 0, none⟩ = some x := by
  have h : (w.alloc (.cells #[x, y] T)).heap[w.heap.size]? = some (.cells #[x, y] T) := Array.getElem?_push_size
  simp only [World.cell?, h]
  rfl
theorem box_cell1 (w : World) (T : TypeId) (x y : Value) : (w.alloc (.cells #[x, y] T)).cell? ⟨w.heap.size, 1, none⟩ = some y := by
  have h : (w.alloc (.cells #[x, y] T)).heap[w.heap.size]? = some (.cells #[x, y] T) := Array.getElem?_push_size
  simp only [World.cell?, h]
  rfl

end Go.Proofs.YtecfphohmgbddaaDoor
