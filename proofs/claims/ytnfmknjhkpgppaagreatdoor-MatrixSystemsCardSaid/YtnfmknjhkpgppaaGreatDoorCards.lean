/-
  DERIVED. GIVEN WITH THE SEED: THE CARDS: each row of YtnfmknjhkpgppaaGreatDoorRows.lean that lists a variable, with what it lists TIED to the program's text (the seventh form; the later family's looks); each row that meets fmt, with fmt's text TOLD by the authors' own Lean function (tested against real Go, not proved from fmt's source: count such statements apart). THE CARD IS WHAT COUNTS. Prove the row's statement (the work); the ties are given (YtnfmknjhkpgppaaGreatDoorTie.lean); close each card by the builder's one call (the guide's Derived/Test/ToyasCard.lean, 'card_holds'). Laid BY PROGRAM, IN A SANDBOX (cutbox-door.mjs). By AI agents, Wed Nov 11 2026. No macro, syntax, notation, axiom, sorry.
-/
import Derived.Test.YtnfmknjhkpgppaaGreatDoorRows
import GoSem.ClaimSeven
namespace Go.Proofs.YtnfmknjhkpgppaaGreatDoor
namespace Rows

/-- THE TIED CARD OF 'gamehalllaw2.MatrixSystems'. -/
def matrixSystemsCard : Claim7 := { stood := { row := matrixSystemsRow, standIns := [], harness := (true, "c5d84de739dd29575a6dd8e8743bbde03b2d29fe6381606464b247fefa9e8b7f"), looks := true }, kinds := [], alts := [], laidByText := true, laidKinds := [.data, .data, .data, .data, .sentinel, .sentinel, .pinned], laidTests := true, laidLooks := .later }
def MatrixSystemsCardSaid : Prop := Claim7.holds Tryz.pinned (.plain (OpenSpec.ofChange matrixSystemsSpec)) matrixSystemsCard

/-- THE SECOND FORM's CARD OF 'gamehalllaw2.MatrixSystems'. -/
def matrixSystemsUptoCard : Claim7 := { stood := { row := matrixSystemsUptoRow, standIns := [], harness := (true, "c5d84de739dd29575a6dd8e8743bbde03b2d29fe6381606464b247fefa9e8b7f"), looks := true }, kinds := [], alts := [], laidByText := true, laidKinds := [.data, .data, .data, .data, .sentinel, .sentinel, .pinned], laidTests := true, laidLooks := .later }
def MatrixSystemsUptoCardSaid : Prop := Claim7.holds Tryz.pinned (.plain (OpenSpec.upto matrixSystemsSpec)) matrixSystemsUptoCard
end Rows
end Go.Proofs.YtnfmknjhkpgppaaGreatDoor
