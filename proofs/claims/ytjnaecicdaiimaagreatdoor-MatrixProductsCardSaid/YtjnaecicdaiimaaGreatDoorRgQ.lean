/- the law RegretSums: its walks -/
import Derived.Test.YtjnaecicdaiimaaGreatDoorRgY
import Derived.Test.YtjnaecicdaiimaaGreatDoorRgB
namespace Go.Proofs.YtjnaecicdaiimaaGreatDoor
open Go.RowKit
set_option linter.unusedVariables false

end Go.Proofs.YtjnaecicdaiimaaGreatDoor
