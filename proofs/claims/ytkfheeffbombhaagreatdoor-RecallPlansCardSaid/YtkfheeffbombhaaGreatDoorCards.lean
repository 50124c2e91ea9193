/-
  DERIVED. GIVEN WITH THE SEED: THE CARDS: each row of YtkfheeffbombhaaGreatDoorRows.lean that lists a variable, with what it lists TIED to the program's text (the seventh form; the later family's looks); each row that meets fmt, with fmt's text TOLD by the authors' own Lean function (tested against real Go, not proved from fmt's source: count such statements apart). THE CARD IS WHAT COUNTS. Prove the row's statement (the work); the ties are given (YtkfheeffbombhaaGreatDoorTie.lean); close each card by the builder's one call (the guide's Derived/Test/ToyasCard.lean, 'card_holds'). Laid BY PROGRAM, IN A SANDBOX (cutbox-door.mjs). By AI agents, Wed Nov 11 2026. No macro, syntax, notation, axiom, sorry.
-/
import Derived.Test.YtkfheeffbombhaaGreatDoorRows
import GoSem.ClaimSeven
namespace Go.Proofs.YtkfheeffbombhaaGreatDoor
namespace Rows

/-- THE TIED CARD OF 'gamehalllaw2.TreeChecks'. -/
def treeChecksCard : Claim7 := { stood := { row := treeChecksRow, standIns := [], harness := (true, "221a2d1243c0674f10ae0072249a9101b28fce404c4a2f72b401ae65aef8039c"), looks := true }, kinds := [], alts := [], laidByText := true, laidKinds := [.data, .data, .data, .data, .sentinel, .sentinel, .pinned], laidTests := true, laidLooks := .later }
def TreeChecksCardSaid : Prop := Claim7.holds Tryz.pinned (.plain (OpenSpec.ofChange treeChecksSpec)) treeChecksCard

/-- THE TIED CARD OF 'gamehalllaw2.TreeInfos'. -/
def treeInfosCard : Claim7 := { stood := { row := treeInfosRow, standIns := [], harness := (true, "221a2d1243c0674f10ae0072249a9101b28fce404c4a2f72b401ae65aef8039c"), looks := true }, kinds := [], alts := [], laidByText := true, laidKinds := [.data, .data, .data, .data, .sentinel, .sentinel, .pinned], laidTests := true, laidLooks := .later }
def TreeInfosCardSaid : Prop := Claim7.holds Tryz.pinned (.plain (OpenSpec.ofChange treeInfosSpec)) treeInfosCard

/-- THE TIED CARD OF 'gamehalllaw2.TreeTexts'. -/
def treeTextsCard : Claim7 := { stood := { row := treeTextsRow, standIns := [], harness := (true, "221a2d1243c0674f10ae0072249a9101b28fce404c4a2f72b401ae65aef8039c"), looks := true }, kinds := [], alts := [], laidByText := true, laidKinds := [.data, .data, .data, .data, .sentinel, .sentinel, .pinned], laidTests := true, laidLooks := .later }
def TreeTextsCardSaid : Prop := Claim7.holds Tryz.pinned (.plain (OpenSpec.ofChange treeTextsSpec)) treeTextsCard

/-- THE TIED CARD OF 'gamehalllaw2.RecallPerfect'. -/
def recallPerfectCard : Claim7 := { stood := { row := recallPerfectRow, standIns := [], harness := (true, "221a2d1243c0674f10ae0072249a9101b28fce404c4a2f72b401ae65aef8039c"), looks := true }, kinds := [], alts := [], laidByText := true, laidKinds := [.data, .data, .data, .data, .sentinel, .sentinel, .pinned], laidTests := true, laidLooks := .later }
def RecallPerfectCardSaid : Prop := Claim7.holds Tryz.pinned (.plain (OpenSpec.ofChange recallPerfectSpec)) recallPerfectCard

/-- THE TIED CARD OF 'gamehalllaw2.RecallSequences'. -/
def recallSequencesCard : Claim7 := { stood := { row := recallSequencesRow, standIns := [], harness := (true, "221a2d1243c0674f10ae0072249a9101b28fce404c4a2f72b401ae65aef8039c"), looks := true }, kinds := [], alts := [], laidByText := true, laidKinds := [.data, .data, .data, .data, .sentinel, .sentinel, .pinned], laidTests := true, laidLooks := .later }
def RecallSequencesCardSaid : Prop := Claim7.holds Tryz.pinned (.plain (OpenSpec.ofChange recallSequencesSpec)) recallSequencesCard

/-- THE TIED CARD OF 'gamehalllaw2.RecallPlans'. -/
def recallPlansCard : Claim7 := { stood := { row := recallPlansRow, standIns := [], harness := (true, "221a2d1243c0674f10ae0072249a9101b28fce404c4a2f72b401ae65aef8039c"), looks := true }, kinds := [], alts := [], laidByText := true, laidKinds := [.data, .data, .data, .data, .sentinel, .sentinel, .pinned], laidTests := true, laidLooks := .later }
def RecallPlansCardSaid : Prop := Claim7.holds Tryz.pinned (.plain (OpenSpec.ofChange recallPlansSpec)) recallPlansCard

/-- THE SECOND FORM's CARD OF 'gamehalllaw2.TreeChecks'. -/
def treeChecksUptoCard : Claim7 := { stood := { row := treeChecksUptoRow, standIns := [], harness := (true, "221a2d1243c0674f10ae0072249a9101b28fce404c4a2f72b401ae65aef8039c"), looks := true }, kinds := [], alts := [], laidByText := true, laidKinds := [.data, .data, .data, .data, .sentinel, .sentinel, .pinned], laidTests := true, laidLooks := .later }
def TreeChecksUptoCardSaid : Prop := Claim7.holds Tryz.pinned (.plain (OpenSpec.upto treeChecksSpec)) treeChecksUptoCard

/-- THE SECOND FORM's CARD OF 'gamehalllaw2.TreeInfos'. -/
def treeInfosUptoCard : Claim7 := { stood := { row := treeInfosUptoRow, standIns := [], harness := (true, "221a2d1243c0674f10ae0072249a9101b28fce404c4a2f72b401ae65aef8039c"), looks := true }, kinds := [], alts := [], laidByText := true, laidKinds := [.data, .data, .data, .data, .sentinel, .sentinel, .pinned], laidTests := true, laidLooks := .later }
def TreeInfosUptoCardSaid : Prop := Claim7.holds Tryz.pinned (.plain (OpenSpec.upto treeInfosSpec)) treeInfosUptoCard

/-- THE SECOND FORM's CARD OF 'gamehalllaw2.TreeTexts'. -/
def treeTextsUptoCard : Claim7 := { stood := { row := treeTextsUptoRow, standIns := [], harness := (true, "221a2d1243c0674f10ae0072249a9101b28fce404c4a2f72b401ae65aef8039c"), looks := true }, kinds := [], alts := [], laidByText := true, laidKinds := [.data, .data, .data, .data, .sentinel, .sentinel, .pinned], laidTests := true, laidLooks := .later }
def TreeTextsUptoCardSaid : Prop := Claim7.holds Tryz.pinned (.plain (OpenSpec.upto treeTextsSpec)) treeTextsUptoCard

/-- THE SECOND FORM's CARD OF 'gamehalllaw2.RecallPerfect'. -/
def recallPerfectUptoCard : Claim7 := { stood := { row := recallPerfectUptoRow, standIns := [], harness := (true, "221a2d1243c0674f10ae0072249a9101b28fce404c4a2f72b401ae65aef8039c"), looks := true }, kinds := [], alts := [], laidByText := true, laidKinds := [.data, .data, .data, .data, .sentinel, .sentinel, .pinned], laidTests := true, laidLooks := .later }
def RecallPerfectUptoCardSaid : Prop := Claim7.holds Tryz.pinned (.plain (OpenSpec.upto recallPerfectSpec)) recallPerfectUptoCard

/-- THE SECOND FORM's CARD OF 'gamehalllaw2.RecallSequences'. -/
def recallSequencesUptoCard : Claim7 := { stood := { row := recallSequencesUptoRow, standIns := [], harness := (true, "221a2d1243c0674f10ae0072249a9101b28fce404c4a2f72b401ae65aef8039c"), looks := true }, kinds := [], alts := [], laidByText := true, laidKinds := [.data, .data, .data, .data, .sentinel, .sentinel, .pinned], laidTests := true, laidLooks := .later }
def RecallSequencesUptoCardSaid : Prop := Claim7.holds Tryz.pinned (.plain (OpenSpec.upto recallSequencesSpec)) recallSequencesUptoCard

/-- THE SECOND FORM's CARD OF 'gamehalllaw2.RecallPlans'. -/
def recallPlansUptoCard : Claim7 := { stood := { row := recallPlansUptoRow, standIns := [], harness := (true, "221a2d1243c0674f10ae0072249a9101b28fce404c4a2f72b401ae65aef8039c"), looks := true }, kinds := [], alts := [], laidByText := true, laidKinds := [.data, .data, .data, .data, .sentinel, .sentinel, .pinned], laidTests := true, laidLooks := .later }
def RecallPlansUptoCardSaid : Prop := Claim7.holds Tryz.pinned (.plain (OpenSpec.upto recallPlansSpec)) recallPlansUptoCard
end Rows
end Go.Proofs.YtkfheeffbombhaaGreatDoor
