/-
  DERIVED. GIVEN WITH THE SEED: THE CARDS: each row of YtecfphohmgbddaaGreatDoorRows.lean that lists a variable, with what it lists TIED to the program's text (the seventh form; the later family's looks); each row that meets fmt, with fmt's text TOLD by the authors' own Lean function (tested against real Go, not proved from fmt's source: count such statements apart). THE CARD IS WHAT COUNTS. Prove the row's statement (the work); the ties are given (YtecfphohmgbddaaGreatDoorTie.lean); close each card by the builder's one call (the guide's Derived/Test/ToyasCard.lean, 'card_holds'). Laid BY PROGRAM, IN A SANDBOX (cutbox-door.mjs). By AI agents, Wed Nov 11 2026. No macro, syntax, notation, axiom, sorry.
-/
import Derived.Test.YtecfphohmgbddaaGreatDoorRows
import GoSem.ClaimSeven
namespace Go.Proofs.YtecfphohmgbddaaGreatDoor
namespace Rows

/-- THE TIED CARD OF 'gamehalllaw2.NatChecks'. -/
def natChecksCard : Claim7 := { stood := { row := natChecksRow, standIns := [], harness := (true, "ca92f3c370f2f3e0905c43c863c4a948196c368fac056f971787d38bd498732b"), looks := true }, kinds := [], alts := [], laidByText := true, laidKinds := [.data, .data, .data, .data, .sentinel, .sentinel, .pinned], laidTests := true, laidLooks := .later }
def NatChecksCardSaid : Prop := Claim7.holds Tryz.pinned (.plain (OpenSpec.ofChange natChecksSpec)) natChecksCard

/-- THE TIED CARD OF 'gamehalllaw2.NatSums'. -/
def natSumsCard : Claim7 := { stood := { row := natSumsRow, standIns := [], harness := (true, "ca92f3c370f2f3e0905c43c863c4a948196c368fac056f971787d38bd498732b"), looks := true }, kinds := [], alts := [], laidByText := true, laidKinds := [.data, .data, .data, .data, .sentinel, .sentinel, .pinned], laidTests := true, laidLooks := .later }
def NatSumsCardSaid : Prop := Claim7.holds Tryz.pinned (.plain (OpenSpec.ofChange natSumsSpec)) natSumsCard

/-- THE TIED CARD OF 'gamehalllaw2.NatProducts'. -/
def natProductsCard : Claim7 := { stood := { row := natProductsRow, standIns := [], harness := (true, "ca92f3c370f2f3e0905c43c863c4a948196c368fac056f971787d38bd498732b"), looks := true }, kinds := [], alts := [], laidByText := true, laidKinds := [.data, .data, .data, .data, .sentinel, .sentinel, .pinned], laidTests := true, laidLooks := .later }
def NatProductsCardSaid : Prop := Claim7.holds Tryz.pinned (.plain (OpenSpec.ofChange natProductsSpec)) natProductsCard

/-- THE TIED CARD OF 'gamehalllaw2.NatCounts'. -/
def natCountsCard : Claim7 := { stood := { row := natCountsRow, standIns := [], harness := (true, "ca92f3c370f2f3e0905c43c863c4a948196c368fac056f971787d38bd498732b"), looks := true }, kinds := [], alts := [], laidByText := true, laidKinds := [.data, .data, .data, .data, .sentinel, .sentinel, .pinned], laidTests := true, laidLooks := .later }
def NatCountsCardSaid : Prop := Claim7.holds Tryz.pinned (.plain (OpenSpec.ofChange natCountsSpec)) natCountsCard

/-- THE TIED CARD OF 'gamehalllaw2.RatChecks'. -/
def ratChecksCard : Claim7 := { stood := { row := ratChecksRow, standIns := [], harness := (true, "ca92f3c370f2f3e0905c43c863c4a948196c368fac056f971787d38bd498732b"), looks := true }, kinds := [], alts := [], laidByText := true, laidKinds := [.data, .data, .data, .data, .sentinel, .sentinel, .pinned], laidTests := true, laidLooks := .later }
def RatChecksCardSaid : Prop := Claim7.holds Tryz.pinned (.plain (OpenSpec.ofChange ratChecksSpec)) ratChecksCard

/-- THE TIED CARD OF 'gamehalllaw2.RatOfs'. -/
def ratOfsCard : Claim7 := { stood := { row := ratOfsRow, standIns := [], harness := (true, "ca92f3c370f2f3e0905c43c863c4a948196c368fac056f971787d38bd498732b"), looks := true }, kinds := [], alts := [], laidByText := true, laidKinds := [.data, .data, .data, .data, .sentinel, .sentinel, .pinned], laidTests := true, laidLooks := .later }
def RatOfsCardSaid : Prop := Claim7.holds Tryz.pinned (.plain (OpenSpec.ofChange ratOfsSpec)) ratOfsCard

/-- THE TIED CARD OF 'gamehalllaw2.RatSums'. -/
def ratSumsCard : Claim7 := { stood := { row := ratSumsRow, standIns := [], harness := (true, "ca92f3c370f2f3e0905c43c863c4a948196c368fac056f971787d38bd498732b"), looks := true }, kinds := [], alts := [], laidByText := true, laidKinds := [.data, .data, .data, .data, .sentinel, .sentinel, .pinned], laidTests := true, laidLooks := .later }
def RatSumsCardSaid : Prop := Claim7.holds Tryz.pinned (.plain (OpenSpec.ofChange ratSumsSpec)) ratSumsCard

/-- THE TIED CARD OF 'gamehalllaw2.RatProducts'. -/
def ratProductsCard : Claim7 := { stood := { row := ratProductsRow, standIns := [], harness := (true, "ca92f3c370f2f3e0905c43c863c4a948196c368fac056f971787d38bd498732b"), looks := true }, kinds := [], alts := [], laidByText := true, laidKinds := [.data, .data, .data, .data, .sentinel, .sentinel, .pinned], laidTests := true, laidLooks := .later }
def RatProductsCardSaid : Prop := Claim7.holds Tryz.pinned (.plain (OpenSpec.ofChange ratProductsSpec)) ratProductsCard

/-- THE TIED CARD OF 'gamehalllaw2.RatCompares'. -/
def ratComparesCard : Claim7 := { stood := { row := ratComparesRow, standIns := [], harness := (true, "ca92f3c370f2f3e0905c43c863c4a948196c368fac056f971787d38bd498732b"), looks := true }, kinds := [], alts := [], laidByText := true, laidKinds := [.data, .data, .data, .data, .sentinel, .sentinel, .pinned], laidTests := true, laidLooks := .later }
def RatComparesCardSaid : Prop := Claim7.holds Tryz.pinned (.plain (OpenSpec.ofChange ratComparesSpec)) ratComparesCard

/-- THE TIED CARD OF 'gamehalllaw2.RatLists'. -/
def ratListsCard : Claim7 := { stood := { row := ratListsRow, standIns := [], harness := (true, "ca92f3c370f2f3e0905c43c863c4a948196c368fac056f971787d38bd498732b"), looks := true }, kinds := [], alts := [], laidByText := true, laidKinds := [.data, .data, .data, .data, .sentinel, .sentinel, .pinned], laidTests := true, laidLooks := .later }
def RatListsCardSaid : Prop := Claim7.holds Tryz.pinned (.plain (OpenSpec.ofChange ratListsSpec)) ratListsCard

/-- THE SECOND FORM's CARD OF 'gamehalllaw2.NatChecks'. -/
def natChecksUptoCard : Claim7 := { stood := { row := natChecksUptoRow, standIns := [], harness := (true, "ca92f3c370f2f3e0905c43c863c4a948196c368fac056f971787d38bd498732b"), looks := true }, kinds := [], alts := [], laidByText := true, laidKinds := [.data, .data, .data, .data, .sentinel, .sentinel, .pinned], laidTests := true, laidLooks := .later }
def NatChecksUptoCardSaid : Prop := Claim7.holds Tryz.pinned (.plain (OpenSpec.upto natChecksSpec)) natChecksUptoCard

/-- THE SECOND FORM's CARD OF 'gamehalllaw2.NatSums'. -/
def natSumsUptoCard : Claim7 := { stood := { row := natSumsUptoRow, standIns := [], harness := (true, "ca92f3c370f2f3e0905c43c863c4a948196c368fac056f971787d38bd498732b"), looks := true }, kinds := [], alts := [], laidByText := true, laidKinds := [.data, .data, .data, .data, .sentinel, .sentinel, .pinned], laidTests := true, laidLooks := .later }
def NatSumsUptoCardSaid : Prop := Claim7.holds Tryz.pinned (.plain (OpenSpec.upto natSumsSpec)) natSumsUptoCard

/-- THE SECOND FORM's CARD OF 'gamehalllaw2.NatProducts'. -/
def natProductsUptoCard : Claim7 := { stood := { row := natProductsUptoRow, standIns := [], harness := (true, "ca92f3c370f2f3e0905c43c863c4a948196c368fac056f971787d38bd498732b"), looks := true }, kinds := [], alts := [], laidByText := true, laidKinds := [.data, .data, .data, .data, .sentinel, .sentinel, .pinned], laidTests := true, laidLooks := .later }
def NatProductsUptoCardSaid : Prop := Claim7.holds Tryz.pinned (.plain (OpenSpec.upto natProductsSpec)) natProductsUptoCard

/-- THE SECOND FORM's CARD OF 'gamehalllaw2.NatCounts'. -/
def natCountsUptoCard : Claim7 := { stood := { row := natCountsUptoRow, standIns := [], harness := (true, "ca92f3c370f2f3e0905c43c863c4a948196c368fac056f971787d38bd498732b"), looks := true }, kinds := [], alts := [], laidByText := true, laidKinds := [.data, .data, .data, .data, .sentinel, .sentinel, .pinned], laidTests := true, laidLooks := .later }
def NatCountsUptoCardSaid : Prop := Claim7.holds Tryz.pinned (.plain (OpenSpec.upto natCountsSpec)) natCountsUptoCard

/-- THE SECOND FORM's CARD OF 'gamehalllaw2.RatChecks'. -/
def ratChecksUptoCard : Claim7 := { stood := { row := ratChecksUptoRow, standIns := [], harness := (true, "ca92f3c370f2f3e0905c43c863c4a948196c368fac056f971787d38bd498732b"), looks := true }, kinds := [], alts := [], laidByText := true, laidKinds := [.data, .data, .data, .data, .sentinel, .sentinel, .pinned], laidTests := true, laidLooks := .later }
def RatChecksUptoCardSaid : Prop := Claim7.holds Tryz.pinned (.plain (OpenSpec.upto ratChecksSpec)) ratChecksUptoCard

/-- THE SECOND FORM's CARD OF 'gamehalllaw2.RatOfs'. -/
def ratOfsUptoCard : Claim7 := { stood := { row := ratOfsUptoRow, standIns := [], harness := (true, "ca92f3c370f2f3e0905c43c863c4a948196c368fac056f971787d38bd498732b"), looks := true }, kinds := [], alts := [], laidByText := true, laidKinds := [.data, .data, .data, .data, .sentinel, .sentinel, .pinned], laidTests := true, laidLooks := .later }
def RatOfsUptoCardSaid : Prop := Claim7.holds Tryz.pinned (.plain (OpenSpec.upto ratOfsSpec)) ratOfsUptoCard

/-- THE SECOND FORM's CARD OF 'gamehalllaw2.RatSums'. -/
def ratSumsUptoCard : Claim7 := { stood := { row := ratSumsUptoRow, standIns := [], harness := (true, "ca92f3c370f2f3e0905c43c863c4a948196c368fac056f971787d38bd498732b"), looks := true }, kinds := [], alts := [], laidByText := true, laidKinds := [.data, .data, .data, .data, .sentinel, .sentinel, .pinned], laidTests := true, laidLooks := .later }
def RatSumsUptoCardSaid : Prop := Claim7.holds Tryz.pinned (.plain (OpenSpec.upto ratSumsSpec)) ratSumsUptoCard

/-- THE SECOND FORM's CARD OF 'gamehalllaw2.RatProducts'. -/
def ratProductsUptoCard : Claim7 := { stood := { row := ratProductsUptoRow, standIns := [], harness := (true, "ca92f3c370f2f3e0905c43c863c4a948196c368fac056f971787d38bd498732b"), looks := true }, kinds := [], alts := [], laidByText := true, laidKinds := [.data, .data, .data, .data, .sentinel, .sentinel, .pinned], laidTests := true, laidLooks := .later }
def RatProductsUptoCardSaid : Prop := Claim7.holds Tryz.pinned (.plain (OpenSpec.upto ratProductsSpec)) ratProductsUptoCard

/-- THE SECOND FORM's CARD OF 'gamehalllaw2.RatCompares'. -/
def ratComparesUptoCard : Claim7 := { stood := { row := ratComparesUptoRow, standIns := [], harness := (true, "ca92f3c370f2f3e0905c43c863c4a948196c368fac056f971787d38bd498732b"), looks := true }, kinds := [], alts := [], laidByText := true, laidKinds := [.data, .data, .data, .data, .sentinel, .sentinel, .pinned], laidTests := true, laidLooks := .later }
def RatComparesUptoCardSaid : Prop := Claim7.holds Tryz.pinned (.plain (OpenSpec.upto ratComparesSpec)) ratComparesUptoCard

/-- THE SECOND FORM's CARD OF 'gamehalllaw2.RatLists'. -/
def ratListsUptoCard : Claim7 := { stood := { row := ratListsUptoRow, standIns := [], harness := (true, "ca92f3c370f2f3e0905c43c863c4a948196c368fac056f971787d38bd498732b"), looks := true }, kinds := [], alts := [], laidByText := true, laidKinds := [.data, .data, .data, .data, .sentinel, .sentinel, .pinned], laidTests := true, laidLooks := .later }
def RatListsUptoCardSaid : Prop := Claim7.holds Tryz.pinned (.plain (OpenSpec.upto ratListsSpec)) ratListsUptoCard
end Rows
end Go.Proofs.YtecfphohmgbddaaGreatDoor
