/-
  DERIVED. GIVEN WITH THE SEED: THE CARDS: each row of YtllhgkacbpgemaaDoorRows.lean that lists a variable, with what it lists TIED to the program's text (the seventh form; the later family's looks); each row that meets fmt, with fmt's text TOLD by the authors' own Lean function (tested against real Go, not proved from fmt's source: count such statements apart). THE CARD IS WHAT COUNTS. Prove the row's statement (the work); the ties are given (YtllhgkacbpgemaaDoorTie.lean); close each card by the builder's one call (the guide's Derived/Test/ToyasCard.lean, 'card_holds'). Laid BY PROGRAM, IN A SANDBOX (cutbox-door.mjs). By AI agents, Wed Nov 11 2026. No macro, syntax, notation, axiom, sorry.
-/
import Derived.Test.YtllhgkacbpgemaaDoorRows
import GoSem.ClaimSeven
namespace Go.Proofs.YtllhgkacbpgemaaDoor
namespace Rows

/-- THE TIED CARD OF 'gamehalllaw2.CardsShuffles'. -/
def cardsShufflesCard : Claim7 := { stood := { row := cardsShufflesRow, standIns := [], harness := (true, "ac19f5b616c6e247592851b6036c86095dd9a58108d0573c7f4aaba632ba328a"), looks := true }, kinds := [], alts := [], laidByText := true, laidKinds := [.data, .pinned], laidTests := true, laidLooks := .later }
def CardsShufflesCardSaid : Prop := Claim7.holds Tryd.pinned (.plain (OpenSpec.ofChange cardsShufflesSpec)) cardsShufflesCard

/-- THE TIED CARD OF 'gamehalllaw2.CardsDeals'. -/
def cardsDealsCard : Claim7 := { stood := { row := cardsDealsRow, standIns := [], harness := (true, "ac19f5b616c6e247592851b6036c86095dd9a58108d0573c7f4aaba632ba328a"), looks := true }, kinds := [], alts := [], laidByText := true, laidKinds := [.data, .pinned], laidTests := true, laidLooks := .later }
def CardsDealsCardSaid : Prop := Claim7.holds Tryd.pinned (.plain (OpenSpec.ofChange cardsDealsSpec)) cardsDealsCard

/-- THE TIED CARD OF 'gamehalllaw2.CardsTexts'. -/
def cardsTextsCard : Claim7 := { stood := { row := cardsTextsRow, standIns := [], harness := (true, "ac19f5b616c6e247592851b6036c86095dd9a58108d0573c7f4aaba632ba328a"), looks := true }, kinds := [], alts := [], laidByText := true, laidKinds := [.data, .pinned], laidTests := true, laidLooks := .later }
def CardsTextsCardSaid : Prop := Claim7.holds Tryd.pinned (.plain (OpenSpec.ofChange cardsTextsSpec)) cardsTextsCard

/-- THE TIED CARD OF 'gamehalllaw2.TableCodes'. -/
def tableCodesCard : Claim7 := { stood := { row := tableCodesRow, standIns := [], harness := (true, "ac19f5b616c6e247592851b6036c86095dd9a58108d0573c7f4aaba632ba328a"), looks := true }, kinds := [], alts := [], laidByText := true, laidKinds := [.data, .data, .data, .sentinel, .sentinel], laidTests := true, laidLooks := .later }
def TableCodesCardSaid : Prop := Claim7.holds Tryd.pinned (.plain (OpenSpec.ofChange tableCodesSpec)) tableCodesCard

/-- THE TIED CARD OF 'gamehalllaw2.TablePacks'. -/
def tablePacksCard : Claim7 := { stood := { row := tablePacksRow, standIns := [], harness := (true, "ac19f5b616c6e247592851b6036c86095dd9a58108d0573c7f4aaba632ba328a"), looks := true }, kinds := [], alts := [], laidByText := true, laidKinds := [.data, .data, .data, .sentinel, .sentinel], laidTests := true, laidLooks := .later }
def TablePacksCardSaid : Prop := Claim7.holds Tryd.pinned (.plain (OpenSpec.ofChange tablePacksSpec)) tablePacksCard

/-- THE SECOND FORM's CARD OF 'gamehalllaw2.CardsShuffles'. -/
def cardsShufflesUptoCard : Claim7 := { stood := { row := cardsShufflesUptoRow, standIns := [], harness := (true, "ac19f5b616c6e247592851b6036c86095dd9a58108d0573c7f4aaba632ba328a"), looks := true }, kinds := [], alts := [], laidByText := true, laidKinds := [.data, .pinned], laidTests := true, laidLooks := .later }
def CardsShufflesUptoCardSaid : Prop := Claim7.holds Tryd.pinned (.plain (OpenSpec.upto cardsShufflesSpec)) cardsShufflesUptoCard

/-- THE SECOND FORM's CARD OF 'gamehalllaw2.CardsDeals'. -/
def cardsDealsUptoCard : Claim7 := { stood := { row := cardsDealsUptoRow, standIns := [], harness := (true, "ac19f5b616c6e247592851b6036c86095dd9a58108d0573c7f4aaba632ba328a"), looks := true }, kinds := [], alts := [], laidByText := true, laidKinds := [.data, .pinned], laidTests := true, laidLooks := .later }
def CardsDealsUptoCardSaid : Prop := Claim7.holds Tryd.pinned (.plain (OpenSpec.upto cardsDealsSpec)) cardsDealsUptoCard

/-- THE SECOND FORM's CARD OF 'gamehalllaw2.CardsTexts'. -/
def cardsTextsUptoCard : Claim7 := { stood := { row := cardsTextsUptoRow, standIns := [], harness := (true, "ac19f5b616c6e247592851b6036c86095dd9a58108d0573c7f4aaba632ba328a"), looks := true }, kinds := [], alts := [], laidByText := true, laidKinds := [.data, .pinned], laidTests := true, laidLooks := .later }
def CardsTextsUptoCardSaid : Prop := Claim7.holds Tryd.pinned (.plain (OpenSpec.upto cardsTextsSpec)) cardsTextsUptoCard

/-- THE SECOND FORM's CARD OF 'gamehalllaw2.TableCodes'. -/
def tableCodesUptoCard : Claim7 := { stood := { row := tableCodesUptoRow, standIns := [], harness := (true, "ac19f5b616c6e247592851b6036c86095dd9a58108d0573c7f4aaba632ba328a"), looks := true }, kinds := [], alts := [], laidByText := true, laidKinds := [.data, .data, .data, .sentinel, .sentinel], laidTests := true, laidLooks := .later }
def TableCodesUptoCardSaid : Prop := Claim7.holds Tryd.pinned (.plain (OpenSpec.upto tableCodesSpec)) tableCodesUptoCard

/-- THE SECOND FORM's CARD OF 'gamehalllaw2.TablePacks'. -/
def tablePacksUptoCard : Claim7 := { stood := { row := tablePacksUptoRow, standIns := [], harness := (true, "ac19f5b616c6e247592851b6036c86095dd9a58108d0573c7f4aaba632ba328a"), looks := true }, kinds := [], alts := [], laidByText := true, laidKinds := [.data, .data, .data, .sentinel, .sentinel], laidTests := true, laidLooks := .later }
def TablePacksUptoCardSaid : Prop := Claim7.holds Tryd.pinned (.plain (OpenSpec.upto tablePacksSpec)) tablePacksUptoCard
end Rows
end Go.Proofs.YtllhgkacbpgemaaDoor
