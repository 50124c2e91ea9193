/- texts merged: RatX RatY -/
import Derived.Test.YtjnaecicdaiimaaGreatDoorRtH
/- package rat at fixed texts -/
namespace Go.Proofs.YtjnaecicdaiimaaGreatDoor
open Go.RowKit
set_option linter.unusedVariables false

end Go.Proofs.YtjnaecicdaiimaaGreatDoor
/- walk of ratFact -/
namespace Go.Proofs.YtjnaecicdaiimaaGreatDoor
open Go.RowKit
set_option linter.unusedVariables false

end Go.Proofs.YtjnaecicdaiimaaGreatDoor
