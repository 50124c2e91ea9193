/- the law RegretSums: its walks -/
import Derived.Test.YtjnaecicdaiimaaGreatDoorRgY
import Derived.Test.YtjnaecicdaiimaaGreatDoorRgB
namespace Go.Proofs.YtjnaecicdaiimaaGreatDoor
open Go.RowKit
set_option linter.unusedVariables false

theorem regretFact_tab2 {w : World} (htab : TabPow w) : Hid (∀ W, Ext w W → Calls Tryz.prog 9 #[] W fun e w' => e = .returned (.bool true) ∧ Ext W w') := fun W hx => regretFact_any W (tabPow_ext htab hx)

end Go.Proofs.YtjnaecicdaiimaaGreatDoor
