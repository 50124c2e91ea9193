/-
  DERIVED. GIVEN WITH THE SEED: THE CARDS: each row of YtcggohkbmhdohaaGreatDoorRows.lean that lists a variable, with what it lists TIED to the program's text (the seventh form; the later family's looks); each row that meets fmt, with fmt's text TOLD by the authors' own Lean function (tested against real Go, not proved from fmt's source: count such statements apart). THE CARD IS WHAT COUNTS. Prove the row's statement (the work); the ties are given (YtcggohkbmhdohaaGreatDoorTie.lean); close each card by the builder's one call (the guide's Derived/Test/ToyasCard.lean, 'card_holds'). Laid BY PROGRAM, IN A SANDBOX (cutbox-door.mjs). By AI agents, Wed Nov 11 2026. No macro, syntax, notation, axiom, sorry.
-/
import Derived.Test.YtcggohkbmhdohaaGreatDoorRows
import GoSem.ClaimSeven
namespace Go.Proofs.YtcggohkbmhdohaaGreatDoor
namespace Rows

/-- THE TIED CARD OF 'gamehalllaw2.ReplyValues'. -/
def replyValuesCard : Claim7 := { stood := { row := replyValuesRow, standIns := [], harness := (true, "7ffe127d2c27b849165d3a7668dd122e51ef5e35d0d36985ffe7e78922a4a168"), looks := true }, kinds := [], alts := [], laidByText := true, laidKinds := [.data, .data, .data, .data, .sentinel, .sentinel, .pinned], laidTests := true, laidLooks := .later }
def ReplyValuesCardSaid : Prop := Claim7.holds Tryz.pinned (.plain (OpenSpec.ofChange replyValuesSpec)) replyValuesCard

/-- THE TIED CARD OF 'gamehalllaw2.ReplyBests'. -/
def replyBestsCard : Claim7 := { stood := { row := replyBestsRow, standIns := [], harness := (true, "7ffe127d2c27b849165d3a7668dd122e51ef5e35d0d36985ffe7e78922a4a168"), looks := true }, kinds := [], alts := [], laidByText := true, laidKinds := [.data, .data, .data, .data, .sentinel, .sentinel, .pinned], laidTests := true, laidLooks := .later }
def ReplyBestsCardSaid : Prop := Claim7.holds Tryz.pinned (.plain (OpenSpec.ofChange replyBestsSpec)) replyBestsCard

/-- THE TIED CARD OF 'gamehalllaw2.ConvertMixtures'. -/
def convertMixturesCard : Claim7 := { stood := { row := convertMixturesRow, standIns := [], harness := (true, "7ffe127d2c27b849165d3a7668dd122e51ef5e35d0d36985ffe7e78922a4a168"), looks := true }, kinds := [], alts := [], laidByText := true, laidKinds := [.data, .data, .data, .data, .sentinel, .sentinel, .pinned], laidTests := true, laidLooks := .later }
def ConvertMixturesCardSaid : Prop := Claim7.holds Tryz.pinned (.plain (OpenSpec.ofChange convertMixturesSpec)) convertMixturesCard

/-- THE TIED CARD OF 'gamehalllaw2.ConvertPures'. -/
def convertPuresCard : Claim7 := { stood := { row := convertPuresRow, standIns := [], harness := (true, "7ffe127d2c27b849165d3a7668dd122e51ef5e35d0d36985ffe7e78922a4a168"), looks := true }, kinds := [], alts := [], laidByText := true, laidKinds := [.data, .data, .data, .data, .sentinel, .sentinel, .pinned], laidTests := true, laidLooks := .later }
def ConvertPuresCardSaid : Prop := Claim7.holds Tryz.pinned (.plain (OpenSpec.ofChange convertPuresSpec)) convertPuresCard

/-- THE SECOND FORM's CARD OF 'gamehalllaw2.ReplyValues'. -/
def replyValuesUptoCard : Claim7 := { stood := { row := replyValuesUptoRow, standIns := [], harness := (true, "7ffe127d2c27b849165d3a7668dd122e51ef5e35d0d36985ffe7e78922a4a168"), looks := true }, kinds := [], alts := [], laidByText := true, laidKinds := [.data, .data, .data, .data, .sentinel, .sentinel, .pinned], laidTests := true, laidLooks := .later }
def ReplyValuesUptoCardSaid : Prop := Claim7.holds Tryz.pinned (.plain (OpenSpec.upto replyValuesSpec)) replyValuesUptoCard

/-- THE SECOND FORM's CARD OF 'gamehalllaw2.ReplyBests'. -/
def replyBestsUptoCard : Claim7 := { stood := { row := replyBestsUptoRow, standIns := [], harness := (true, "7ffe127d2c27b849165d3a7668dd122e51ef5e35d0d36985ffe7e78922a4a168"), looks := true }, kinds := [], alts := [], laidByText := true, laidKinds := [.data, .data, .data, .data, .sentinel, .sentinel, .pinned], laidTests := true, laidLooks := .later }
def ReplyBestsUptoCardSaid : Prop := Claim7.holds Tryz.pinned (.plain (OpenSpec.upto replyBestsSpec)) replyBestsUptoCard

/-- THE SECOND FORM's CARD OF 'gamehalllaw2.ConvertMixtures'. -/
def convertMixturesUptoCard : Claim7 := { stood := { row := convertMixturesUptoRow, standIns := [], harness := (true, "7ffe127d2c27b849165d3a7668dd122e51ef5e35d0d36985ffe7e78922a4a168"), looks := true }, kinds := [], alts := [], laidByText := true, laidKinds := [.data, .data, .data, .data, .sentinel, .sentinel, .pinned], laidTests := true, laidLooks := .later }
def ConvertMixturesUptoCardSaid : Prop := Claim7.holds Tryz.pinned (.plain (OpenSpec.upto convertMixturesSpec)) convertMixturesUptoCard

/-- THE SECOND FORM's CARD OF 'gamehalllaw2.ConvertPures'. -/
def convertPuresUptoCard : Claim7 := { stood := { row := convertPuresUptoRow, standIns := [], harness := (true, "7ffe127d2c27b849165d3a7668dd122e51ef5e35d0d36985ffe7e78922a4a168"), looks := true }, kinds := [], alts := [], laidByText := true, laidKinds := [.data, .data, .data, .data, .sentinel, .sentinel, .pinned], laidTests := true, laidLooks := .later }
def ConvertPuresUptoCardSaid : Prop := Claim7.holds Tryz.pinned (.plain (OpenSpec.upto convertPuresSpec)) convertPuresUptoCard
end Rows
end Go.Proofs.YtcggohkbmhdohaaGreatDoor
