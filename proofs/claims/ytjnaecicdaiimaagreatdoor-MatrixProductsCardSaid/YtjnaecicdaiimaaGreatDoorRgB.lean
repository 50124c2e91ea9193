/- walk: historyError -/
import Derived.Test.YtjnaecicdaiimaaGreatDoorRgX
namespace Go.Proofs.YtjnaecicdaiimaaGreatDoor
open Go.RowKit
set_option linter.unusedVariables false

end Go.Proofs.YtjnaecicdaiimaaGreatDoor
