/- texts merged: TrBC TrBD -/
import Derived.Test.YtkfheeffbombhaaGreatDoorTrYX
import Derived.Test.YtkfheeffbombhaaGreatDoorNatI
import Derived.Test.YtkfheeffbombhaaGreatDoorRatAL
import Derived.BigQuiet
import Derived.Test.YtkfheeffbombhaaGreatDoorTrBX
/- walks: the reference's TreeText; the law TreeTexts -/
namespace Go.Proofs.YtkfheeffbombhaaGreatDoor
open Go.RowKit
set_option linter.unusedVariables false

/-! ### the law -/
end Go.Proofs.YtkfheeffbombhaaGreatDoor/- the walk of TreeInfos -/
namespace Go.Proofs.YtkfheeffbombhaaGreatDoor
open Go.RowKit
set_option linter.unusedVariables false

/-! ### plain -/
end Go.Proofs.YtkfheeffbombhaaGreatDoor