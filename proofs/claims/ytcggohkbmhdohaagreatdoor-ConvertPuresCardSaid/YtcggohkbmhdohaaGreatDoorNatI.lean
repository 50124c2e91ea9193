/- walk of the reference: RatInt at numbers that are not negative -/
import Derived.Test.YtcggohkbmhdohaaGreatDoorNtDE
import Derived.IntWalk
import Derived.Lib.ItoaNum
import Derived.Lib.ItoaLen
import Derived.Lib.Strings
namespace Go.Proofs.YtcggohkbmhdohaaGreatDoor
open Go.RowKit
set_option linter.unusedVariables false
theorem bytes_data_append (a b:ByteArray):(a ++ b).data.toList=a.data.toList ++ b.data.toList:=by
 simp
end Go.Proofs.YtcggohkbmhdohaaGreatDoor
