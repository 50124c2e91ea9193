/- arguments that are read: slices of pairs of ints -/
import Derived.Test.YtjnaecicdaiimaaGreatDoorInC
import Derived.Test.YtjnaecicdaiimaaGreatDoorRgY
namespace Go.Proofs.YtjnaecicdaiimaaGreatDoor
open Go.ChangeShapes Go.WideShapes Go.ChangeAt Go.RowKit Go.Deep

end Go.Proofs.YtjnaecicdaiimaaGreatDoor
