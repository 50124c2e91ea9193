/-
  DERIVED. GIVEN WITH THE SEED: THE CARDS: each row of YtjnaecicdaiimaaGreatDoorRows.lean that lists a variable, with what it lists TIED to the program's text (the seventh form; the later family's looks); each row that meets fmt, with fmt's text TOLD by the authors' own Lean function (tested against real Go, not proved from fmt's source: count such statements apart). THE CARD IS WHAT COUNTS. Prove the row's statement (the work); the ties are given (YtjnaecicdaiimaaGreatDoorTie.lean); close each card by the builder's one call (the guide's Derived/Test/ToyasCard.lean, 'card_holds'). Laid BY PROGRAM, IN A SANDBOX (cutbox-door.mjs). By AI agents, Wed Nov 11 2026. No macro, syntax, notation, axiom, sorry.
-/
import Derived.Test.YtjnaecicdaiimaaGreatDoorRows
import GoSem.ClaimSeven
namespace Go.Proofs.YtjnaecicdaiimaaGreatDoor
namespace Rows

/-- THE TIED CARD OF 'gamehalllaw2.RegretPlays'. -/
def regretPlaysCard : Claim7 := { stood := { row := regretPlaysRow, standIns := [], harness := (true, "d843b2d97a0c19f453ef4e7ef92b15830be50e4d4124eecfa8ffbb5dbaa44347"), looks := true }, kinds := [], alts := [], laidByText := true, laidKinds := [.data, .data, .data, .data, .sentinel, .sentinel, .pinned], laidTests := true, laidLooks := .later }
def RegretPlaysCardSaid : Prop := Claim7.holds Tryz.pinned (.plain (OpenSpec.ofChange regretPlaysSpec)) regretPlaysCard

/-- THE TIED CARD OF 'gamehalllaw2.RegretAverages'. -/
def regretAveragesCard : Claim7 := { stood := { row := regretAveragesRow, standIns := [], harness := (true, "d843b2d97a0c19f453ef4e7ef92b15830be50e4d4124eecfa8ffbb5dbaa44347"), looks := true }, kinds := [], alts := [], laidByText := true, laidKinds := [.data, .data, .data, .data, .sentinel, .sentinel, .pinned], laidTests := true, laidLooks := .later }
def RegretAveragesCardSaid : Prop := Claim7.holds Tryz.pinned (.plain (OpenSpec.ofChange regretAveragesSpec)) regretAveragesCard

/-- THE TIED CARD OF 'gamehalllaw2.MatrixChecks'. -/
def matrixChecksCard : Claim7 := { stood := { row := matrixChecksRow, standIns := [], harness := (true, "d843b2d97a0c19f453ef4e7ef92b15830be50e4d4124eecfa8ffbb5dbaa44347"), looks := true }, kinds := [], alts := [], laidByText := true, laidKinds := [.data, .data, .data, .data, .sentinel, .sentinel, .pinned], laidTests := true, laidLooks := .later }
def MatrixChecksCardSaid : Prop := Claim7.holds Tryz.pinned (.plain (OpenSpec.ofChange matrixChecksSpec)) matrixChecksCard

/-- THE TIED CARD OF 'gamehalllaw2.MatrixProducts'. -/
def matrixProductsCard : Claim7 := { stood := { row := matrixProductsRow, standIns := [], harness := (true, "d843b2d97a0c19f453ef4e7ef92b15830be50e4d4124eecfa8ffbb5dbaa44347"), looks := true }, kinds := [], alts := [], laidByText := true, laidKinds := [.data, .data, .data, .data, .sentinel, .sentinel, .pinned], laidTests := true, laidLooks := .later }
def MatrixProductsCardSaid : Prop := Claim7.holds Tryz.pinned (.plain (OpenSpec.ofChange matrixProductsSpec)) matrixProductsCard

/-- THE TIED CARD OF 'gamehalllaw2.MatrixDots'. -/
def matrixDotsCard : Claim7 := { stood := { row := matrixDotsRow, standIns := [], harness := (true, "d843b2d97a0c19f453ef4e7ef92b15830be50e4d4124eecfa8ffbb5dbaa44347"), looks := true }, kinds := [], alts := [], laidByText := true, laidKinds := [.data, .data, .data, .data, .sentinel, .sentinel, .pinned], laidTests := true, laidLooks := .later }
def MatrixDotsCardSaid : Prop := Claim7.holds Tryz.pinned (.plain (OpenSpec.ofChange matrixDotsSpec)) matrixDotsCard

/-- THE TIED CARD OF 'gamehalllaw2.MatrixSystems'. -/
def matrixSystemsCard : Claim7 := { stood := { row := matrixSystemsRow, standIns := [], harness := (true, "d843b2d97a0c19f453ef4e7ef92b15830be50e4d4124eecfa8ffbb5dbaa44347"), looks := true }, kinds := [], alts := [], laidByText := true, laidKinds := [.data, .data, .data, .data, .sentinel, .sentinel, .pinned], laidTests := true, laidLooks := .later }
def MatrixSystemsCardSaid : Prop := Claim7.holds Tryz.pinned (.plain (OpenSpec.ofChange matrixSystemsSpec)) matrixSystemsCard

/-- THE SECOND FORM's CARD OF 'gamehalllaw2.RegretPlays'. -/
def regretPlaysUptoCard : Claim7 := { stood := { row := regretPlaysUptoRow, standIns := [], harness := (true, "d843b2d97a0c19f453ef4e7ef92b15830be50e4d4124eecfa8ffbb5dbaa44347"), looks := true }, kinds := [], alts := [], laidByText := true, laidKinds := [.data, .data, .data, .data, .sentinel, .sentinel, .pinned], laidTests := true, laidLooks := .later }
def RegretPlaysUptoCardSaid : Prop := Claim7.holds Tryz.pinned (.plain (OpenSpec.upto regretPlaysSpec)) regretPlaysUptoCard

/-- THE SECOND FORM's CARD OF 'gamehalllaw2.RegretAverages'. -/
def regretAveragesUptoCard : Claim7 := { stood := { row := regretAveragesUptoRow, standIns := [], harness := (true, "d843b2d97a0c19f453ef4e7ef92b15830be50e4d4124eecfa8ffbb5dbaa44347"), looks := true }, kinds := [], alts := [], laidByText := true, laidKinds := [.data, .data, .data, .data, .sentinel, .sentinel, .pinned], laidTests := true, laidLooks := .later }
def RegretAveragesUptoCardSaid : Prop := Claim7.holds Tryz.pinned (.plain (OpenSpec.upto regretAveragesSpec)) regretAveragesUptoCard

/-- THE SECOND FORM's CARD OF 'gamehalllaw2.MatrixChecks'. -/
def matrixChecksUptoCard : Claim7 := { stood := { row := matrixChecksUptoRow, standIns := [], harness := (true, "d843b2d97a0c19f453ef4e7ef92b15830be50e4d4124eecfa8ffbb5dbaa44347"), looks := true }, kinds := [], alts := [], laidByText := true, laidKinds := [.data, .data, .data, .data, .sentinel, .sentinel, .pinned], laidTests := true, laidLooks := .later }
def MatrixChecksUptoCardSaid : Prop := Claim7.holds Tryz.pinned (.plain (OpenSpec.upto matrixChecksSpec)) matrixChecksUptoCard

/-- THE SECOND FORM's CARD OF 'gamehalllaw2.MatrixProducts'. -/
def matrixProductsUptoCard : Claim7 := { stood := { row := matrixProductsUptoRow, standIns := [], harness := (true, "d843b2d97a0c19f453ef4e7ef92b15830be50e4d4124eecfa8ffbb5dbaa44347"), looks := true }, kinds := [], alts := [], laidByText := true, laidKinds := [.data, .data, .data, .data, .sentinel, .sentinel, .pinned], laidTests := true, laidLooks := .later }
def MatrixProductsUptoCardSaid : Prop := Claim7.holds Tryz.pinned (.plain (OpenSpec.upto matrixProductsSpec)) matrixProductsUptoCard

/-- THE SECOND FORM's CARD OF 'gamehalllaw2.MatrixDots'. -/
def matrixDotsUptoCard : Claim7 := { stood := { row := matrixDotsUptoRow, standIns := [], harness := (true, "d843b2d97a0c19f453ef4e7ef92b15830be50e4d4124eecfa8ffbb5dbaa44347"), looks := true }, kinds := [], alts := [], laidByText := true, laidKinds := [.data, .data, .data, .data, .sentinel, .sentinel, .pinned], laidTests := true, laidLooks := .later }
def MatrixDotsUptoCardSaid : Prop := Claim7.holds Tryz.pinned (.plain (OpenSpec.upto matrixDotsSpec)) matrixDotsUptoCard

/-- THE SECOND FORM's CARD OF 'gamehalllaw2.MatrixSystems'. -/
def matrixSystemsUptoCard : Claim7 := { stood := { row := matrixSystemsUptoRow, standIns := [], harness := (true, "d843b2d97a0c19f453ef4e7ef92b15830be50e4d4124eecfa8ffbb5dbaa44347"), looks := true }, kinds := [], alts := [], laidByText := true, laidKinds := [.data, .data, .data, .data, .sentinel, .sentinel, .pinned], laidTests := true, laidLooks := .later }
def MatrixSystemsUptoCardSaid : Prop := Claim7.holds Tryz.pinned (.plain (OpenSpec.upto matrixSystemsSpec)) matrixSystemsUptoCard
end Rows
end Go.Proofs.YtjnaecicdaiimaaGreatDoor
