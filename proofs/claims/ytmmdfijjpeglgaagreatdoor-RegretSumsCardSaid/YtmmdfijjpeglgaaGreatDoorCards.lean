/-
  DERIVED. GIVEN WITH THE SEED: THE CARDS: each row of YtmmdfijjpeglgaaGreatDoorRows.lean that lists a variable, with what it lists TIED to the program's text (the seventh form; the later family's looks); each row that meets fmt, with fmt's text TOLD by the authors' own Lean function (tested against real Go, not proved from fmt's source: count such statements apart). THE CARD IS WHAT COUNTS. Prove the row's statement (the work); the ties are given (YtmmdfijjpeglgaaGreatDoorTie.lean); close each card by the builder's one call (the guide's Derived/Test/ToyasCard.lean, 'card_holds'). Laid BY PROGRAM, IN A SANDBOX (cutbox-door.mjs). By AI agents, Wed Nov 11 2026. No macro, syntax, notation, axiom, sorry.
-/
import Derived.Test.YtmmdfijjpeglgaaGreatDoorRows
import GoSem.ClaimSeven
namespace Go.Proofs.YtmmdfijjpeglgaaGreatDoor
namespace Rows

/-- THE TIED CARD OF 'gamehalllaw2.RatChecks'. -/
def ratChecksCard : Claim7 := { stood := { row := ratChecksRow, standIns := [], harness := (true, "705a78bee15ae46cf55ab1f64717fdc76f153d5ea164b67241244b0abed292c2"), looks := true }, kinds := [], alts := [], laidByText := true, laidKinds := [.data, .data, .data, .data, .sentinel, .sentinel, .pinned], laidTests := true, laidLooks := .later }
def RatChecksCardSaid : Prop := Claim7.holds Tryz.pinned (.plain (OpenSpec.ofChange ratChecksSpec)) ratChecksCard

/-- THE TIED CARD OF 'gamehalllaw2.RatOfs'. -/
def ratOfsCard : Claim7 := { stood := { row := ratOfsRow, standIns := [], harness := (true, "705a78bee15ae46cf55ab1f64717fdc76f153d5ea164b67241244b0abed292c2"), looks := true }, kinds := [], alts := [], laidByText := true, laidKinds := [.data, .data, .data, .data, .sentinel, .sentinel, .pinned], laidTests := true, laidLooks := .later }
def RatOfsCardSaid : Prop := Claim7.holds Tryz.pinned (.plain (OpenSpec.ofChange ratOfsSpec)) ratOfsCard

/-- THE TIED CARD OF 'gamehalllaw2.RatSums'. -/
def ratSumsCard : Claim7 := { stood := { row := ratSumsRow, standIns := [], harness := (true, "705a78bee15ae46cf55ab1f64717fdc76f153d5ea164b67241244b0abed292c2"), looks := true }, kinds := [], alts := [], laidByText := true, laidKinds := [.data, .data, .data, .data, .sentinel, .sentinel, .pinned], laidTests := true, laidLooks := .later }
def RatSumsCardSaid : Prop := Claim7.holds Tryz.pinned (.plain (OpenSpec.ofChange ratSumsSpec)) ratSumsCard

/-- THE TIED CARD OF 'gamehalllaw2.RatProducts'. -/
def ratProductsCard : Claim7 := { stood := { row := ratProductsRow, standIns := [], harness := (true, "705a78bee15ae46cf55ab1f64717fdc76f153d5ea164b67241244b0abed292c2"), looks := true }, kinds := [], alts := [], laidByText := true, laidKinds := [.data, .data, .data, .data, .sentinel, .sentinel, .pinned], laidTests := true, laidLooks := .later }
def RatProductsCardSaid : Prop := Claim7.holds Tryz.pinned (.plain (OpenSpec.ofChange ratProductsSpec)) ratProductsCard

/-- THE TIED CARD OF 'gamehalllaw2.RatCompares'. -/
def ratComparesCard : Claim7 := { stood := { row := ratComparesRow, standIns := [], harness := (true, "705a78bee15ae46cf55ab1f64717fdc76f153d5ea164b67241244b0abed292c2"), looks := true }, kinds := [], alts := [], laidByText := true, laidKinds := [.data, .data, .data, .data, .sentinel, .sentinel, .pinned], laidTests := true, laidLooks := .later }
def RatComparesCardSaid : Prop := Claim7.holds Tryz.pinned (.plain (OpenSpec.ofChange ratComparesSpec)) ratComparesCard

/-- THE TIED CARD OF 'gamehalllaw2.RatLists'. -/
def ratListsCard : Claim7 := { stood := { row := ratListsRow, standIns := [], harness := (true, "705a78bee15ae46cf55ab1f64717fdc76f153d5ea164b67241244b0abed292c2"), looks := true }, kinds := [], alts := [], laidByText := true, laidKinds := [.data, .data, .data, .data, .sentinel, .sentinel, .pinned], laidTests := true, laidLooks := .later }
def RatListsCardSaid : Prop := Claim7.holds Tryz.pinned (.plain (OpenSpec.ofChange ratListsSpec)) ratListsCard

/-- THE TIED CARD OF 'gamehalllaw2.MatrixChecks'. -/
def matrixChecksCard : Claim7 := { stood := { row := matrixChecksRow, standIns := [], harness := (true, "705a78bee15ae46cf55ab1f64717fdc76f153d5ea164b67241244b0abed292c2"), looks := true }, kinds := [], alts := [], laidByText := true, laidKinds := [.data, .data, .data, .data, .sentinel, .sentinel, .pinned], laidTests := true, laidLooks := .later }
def MatrixChecksCardSaid : Prop := Claim7.holds Tryz.pinned (.plain (OpenSpec.ofChange matrixChecksSpec)) matrixChecksCard

/-- THE TIED CARD OF 'gamehalllaw2.MatrixProducts'. -/
def matrixProductsCard : Claim7 := { stood := { row := matrixProductsRow, standIns := [], harness := (true, "705a78bee15ae46cf55ab1f64717fdc76f153d5ea164b67241244b0abed292c2"), looks := true }, kinds := [], alts := [], laidByText := true, laidKinds := [.data, .data, .data, .data, .sentinel, .sentinel, .pinned], laidTests := true, laidLooks := .later }
def MatrixProductsCardSaid : Prop := Claim7.holds Tryz.pinned (.plain (OpenSpec.ofChange matrixProductsSpec)) matrixProductsCard

/-- THE TIED CARD OF 'gamehalllaw2.MatrixDots'. -/
def matrixDotsCard : Claim7 := { stood := { row := matrixDotsRow, standIns := [], harness := (true, "705a78bee15ae46cf55ab1f64717fdc76f153d5ea164b67241244b0abed292c2"), looks := true }, kinds := [], alts := [], laidByText := true, laidKinds := [.data, .data, .data, .data, .sentinel, .sentinel, .pinned], laidTests := true, laidLooks := .later }
def MatrixDotsCardSaid : Prop := Claim7.holds Tryz.pinned (.plain (OpenSpec.ofChange matrixDotsSpec)) matrixDotsCard

/-- THE TIED CARD OF 'gamehalllaw2.MatrixSystems'. -/
def matrixSystemsCard : Claim7 := { stood := { row := matrixSystemsRow, standIns := [], harness := (true, "705a78bee15ae46cf55ab1f64717fdc76f153d5ea164b67241244b0abed292c2"), looks := true }, kinds := [], alts := [], laidByText := true, laidKinds := [.data, .data, .data, .data, .sentinel, .sentinel, .pinned], laidTests := true, laidLooks := .later }
def MatrixSystemsCardSaid : Prop := Claim7.holds Tryz.pinned (.plain (OpenSpec.ofChange matrixSystemsSpec)) matrixSystemsCard

/-- THE TIED CARD OF 'gamehalllaw2.RegretSums'. -/
def regretSumsCard : Claim7 := { stood := { row := regretSumsRow, standIns := [], harness := (true, "705a78bee15ae46cf55ab1f64717fdc76f153d5ea164b67241244b0abed292c2"), looks := true }, kinds := [], alts := [], laidByText := true, laidKinds := [.data, .data, .data, .data, .sentinel, .sentinel, .pinned], laidTests := true, laidLooks := .later }
def RegretSumsCardSaid : Prop := Claim7.holds Tryz.pinned (.plain (OpenSpec.ofChange regretSumsSpec)) regretSumsCard

/-- THE TIED CARD OF 'gamehalllaw2.RegretMatches'. -/
def regretMatchesCard : Claim7 := { stood := { row := regretMatchesRow, standIns := [], harness := (true, "705a78bee15ae46cf55ab1f64717fdc76f153d5ea164b67241244b0abed292c2"), looks := true }, kinds := [], alts := [], laidByText := true, laidKinds := [.data, .data, .data, .data, .sentinel, .sentinel, .pinned], laidTests := true, laidLooks := .later }
def RegretMatchesCardSaid : Prop := Claim7.holds Tryz.pinned (.plain (OpenSpec.ofChange regretMatchesSpec)) regretMatchesCard

/-- THE SECOND FORM's CARD OF 'gamehalllaw2.RatChecks'. -/
def ratChecksUptoCard : Claim7 := { stood := { row := ratChecksUptoRow, standIns := [], harness := (true, "705a78bee15ae46cf55ab1f64717fdc76f153d5ea164b67241244b0abed292c2"), looks := true }, kinds := [], alts := [], laidByText := true, laidKinds := [.data, .data, .data, .data, .sentinel, .sentinel, .pinned], laidTests := true, laidLooks := .later }
def RatChecksUptoCardSaid : Prop := Claim7.holds Tryz.pinned (.plain (OpenSpec.upto ratChecksSpec)) ratChecksUptoCard

/-- THE SECOND FORM's CARD OF 'gamehalllaw2.RatOfs'. -/
def ratOfsUptoCard : Claim7 := { stood := { row := ratOfsUptoRow, standIns := [], harness := (true, "705a78bee15ae46cf55ab1f64717fdc76f153d5ea164b67241244b0abed292c2"), looks := true }, kinds := [], alts := [], laidByText := true, laidKinds := [.data, .data, .data, .data, .sentinel, .sentinel, .pinned], laidTests := true, laidLooks := .later }
def RatOfsUptoCardSaid : Prop := Claim7.holds Tryz.pinned (.plain (OpenSpec.upto ratOfsSpec)) ratOfsUptoCard

/-- THE SECOND FORM's CARD OF 'gamehalllaw2.RatSums'. -/
def ratSumsUptoCard : Claim7 := { stood := { row := ratSumsUptoRow, standIns := [], harness := (true, "705a78bee15ae46cf55ab1f64717fdc76f153d5ea164b67241244b0abed292c2"), looks := true }, kinds := [], alts := [], laidByText := true, laidKinds := [.data, .data, .data, .data, .sentinel, .sentinel, .pinned], laidTests := true, laidLooks := .later }
def RatSumsUptoCardSaid : Prop := Claim7.holds Tryz.pinned (.plain (OpenSpec.upto ratSumsSpec)) ratSumsUptoCard

/-- THE SECOND FORM's CARD OF 'gamehalllaw2.RatProducts'. -/
def ratProductsUptoCard : Claim7 := { stood := { row := ratProductsUptoRow, standIns := [], harness := (true, "705a78bee15ae46cf55ab1f64717fdc76f153d5ea164b67241244b0abed292c2"), looks := true }, kinds := [], alts := [], laidByText := true, laidKinds := [.data, .data, .data, .data, .sentinel, .sentinel, .pinned], laidTests := true, laidLooks := .later }
def RatProductsUptoCardSaid : Prop := Claim7.holds Tryz.pinned (.plain (OpenSpec.upto ratProductsSpec)) ratProductsUptoCard

/-- THE SECOND FORM's CARD OF 'gamehalllaw2.RatCompares'. -/
def ratComparesUptoCard : Claim7 := { stood := { row := ratComparesUptoRow, standIns := [], harness := (true, "705a78bee15ae46cf55ab1f64717fdc76f153d5ea164b67241244b0abed292c2"), looks := true }, kinds := [], alts := [], laidByText := true, laidKinds := [.data, .data, .data, .data, .sentinel, .sentinel, .pinned], laidTests := true, laidLooks := .later }
def RatComparesUptoCardSaid : Prop := Claim7.holds Tryz.pinned (.plain (OpenSpec.upto ratComparesSpec)) ratComparesUptoCard

/-- THE SECOND FORM's CARD OF 'gamehalllaw2.RatLists'. -/
def ratListsUptoCard : Claim7 := { stood := { row := ratListsUptoRow, standIns := [], harness := (true, "705a78bee15ae46cf55ab1f64717fdc76f153d5ea164b67241244b0abed292c2"), looks := true }, kinds := [], alts := [], laidByText := true, laidKinds := [.data, .data, .data, .data, .sentinel, .sentinel, .pinned], laidTests := true, laidLooks := .later }
def RatListsUptoCardSaid : Prop := Claim7.holds Tryz.pinned (.plain (OpenSpec.upto ratListsSpec)) ratListsUptoCard

/-- THE SECOND FORM's CARD OF 'gamehalllaw2.MatrixChecks'. -/
def matrixChecksUptoCard : Claim7 := { stood := { row := matrixChecksUptoRow, standIns := [], harness := (true, "705a78bee15ae46cf55ab1f64717fdc76f153d5ea164b67241244b0abed292c2"), looks := true }, kinds := [], alts := [], laidByText := true, laidKinds := [.data, .data, .data, .data, .sentinel, .sentinel, .pinned], laidTests := true, laidLooks := .later }
def MatrixChecksUptoCardSaid : Prop := Claim7.holds Tryz.pinned (.plain (OpenSpec.upto matrixChecksSpec)) matrixChecksUptoCard

/-- THE SECOND FORM's CARD OF 'gamehalllaw2.MatrixProducts'. -/
def matrixProductsUptoCard : Claim7 := { stood := { row := matrixProductsUptoRow, standIns := [], harness := (true, "705a78bee15ae46cf55ab1f64717fdc76f153d5ea164b67241244b0abed292c2"), looks := true }, kinds := [], alts := [], laidByText := true, laidKinds := [.data, .data, .data, .data, .sentinel, .sentinel, .pinned], laidTests := true, laidLooks := .later }
def MatrixProductsUptoCardSaid : Prop := Claim7.holds Tryz.pinned (.plain (OpenSpec.upto matrixProductsSpec)) matrixProductsUptoCard

/-- THE SECOND FORM's CARD OF 'gamehalllaw2.MatrixDots'. -/
def matrixDotsUptoCard : Claim7 := { stood := { row := matrixDotsUptoRow, standIns := [], harness := (true, "705a78bee15ae46cf55ab1f64717fdc76f153d5ea164b67241244b0abed292c2"), looks := true }, kinds := [], alts := [], laidByText := true, laidKinds := [.data, .data, .data, .data, .sentinel, .sentinel, .pinned], laidTests := true, laidLooks := .later }
def MatrixDotsUptoCardSaid : Prop := Claim7.holds Tryz.pinned (.plain (OpenSpec.upto matrixDotsSpec)) matrixDotsUptoCard

/-- THE SECOND FORM's CARD OF 'gamehalllaw2.MatrixSystems'. -/
def matrixSystemsUptoCard : Claim7 := { stood := { row := matrixSystemsUptoRow, standIns := [], harness := (true, "705a78bee15ae46cf55ab1f64717fdc76f153d5ea164b67241244b0abed292c2"), looks := true }, kinds := [], alts := [], laidByText := true, laidKinds := [.data, .data, .data, .data, .sentinel, .sentinel, .pinned], laidTests := true, laidLooks := .later }
def MatrixSystemsUptoCardSaid : Prop := Claim7.holds Tryz.pinned (.plain (OpenSpec.upto matrixSystemsSpec)) matrixSystemsUptoCard

/-- THE SECOND FORM's CARD OF 'gamehalllaw2.RegretSums'. -/
def regretSumsUptoCard : Claim7 := { stood := { row := regretSumsUptoRow, standIns := [], harness := (true, "705a78bee15ae46cf55ab1f64717fdc76f153d5ea164b67241244b0abed292c2"), looks := true }, kinds := [], alts := [], laidByText := true, laidKinds := [.data, .data, .data, .data, .sentinel, .sentinel, .pinned], laidTests := true, laidLooks := .later }
def RegretSumsUptoCardSaid : Prop := Claim7.holds Tryz.pinned (.plain (OpenSpec.upto regretSumsSpec)) regretSumsUptoCard

/-- THE SECOND FORM's CARD OF 'gamehalllaw2.RegretMatches'. -/
def regretMatchesUptoCard : Claim7 := { stood := { row := regretMatchesUptoRow, standIns := [], harness := (true, "705a78bee15ae46cf55ab1f64717fdc76f153d5ea164b67241244b0abed292c2"), looks := true }, kinds := [], alts := [], laidByText := true, laidKinds := [.data, .data, .data, .data, .sentinel, .sentinel, .pinned], laidTests := true, laidLooks := .later }
def RegretMatchesUptoCardSaid : Prop := Claim7.holds Tryz.pinned (.plain (OpenSpec.upto regretMatchesSpec)) regretMatchesUptoCard
end Rows
end Go.Proofs.YtmmdfijjpeglgaaGreatDoor
