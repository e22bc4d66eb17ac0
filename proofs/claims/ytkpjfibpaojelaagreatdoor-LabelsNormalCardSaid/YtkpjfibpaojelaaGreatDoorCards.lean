/-
  DERIVED. GIVEN WITH THE SEED: THE CARDS: each row of YtkpjfibpaojelaaGreatDoorRows.lean that lists a variable, with what it lists TIED to the program's text (the seventh form; the later family's looks); each row that meets fmt, with fmt's text TOLD by the authors' own Lean function (tested against real Go, not proved from fmt's source: count such statements apart). THE CARD IS WHAT COUNTS. Prove the row's statement (the work); the ties are given (YtkpjfibpaojelaaGreatDoorTie.lean); close each card by the builder's one call (the guide's Derived/Test/ToyasCard.lean, 'card_holds'). Laid BY PROGRAM, IN A SANDBOX (cutbox-door.mjs). By AI agents, Wed Nov 11 2026. No macro, syntax, notation, axiom, sorry.
-/
import Derived.Test.YtkpjfibpaojelaaGreatDoorRows
import GoSem.ClaimSeven
namespace Go.Proofs.YtkpjfibpaojelaaGreatDoor
namespace Rows

/-- THE TIED CARD OF 'batonlaw05.LabelsShows'. -/
def labelsShowsCard : Claim7 := { stood := { row := labelsShowsRow, standIns := [], harness := (true, "2cd67c59be00145e6f157e59de45b90e980a9586b54776cf036336b0a8d3dc7a"), looks := true }, kinds := [], alts := [], laidByText := true, laidKinds := [.data, .data, .data, .data, .sentinel, .sentinel, .pinned], laidTests := true, laidLooks := .later }
def LabelsShowsCardSaid : Prop := Claim7.holds Tryz.pinned (.plain (OpenSpec.ofChange labelsShowsSpec)) labelsShowsCard

/-- THE TIED CARD OF 'batonlaw05.LabelsMay'. -/
def labelsMayCard : Claim7 := { stood := { row := labelsMayRow, standIns := [], harness := (true, "2cd67c59be00145e6f157e59de45b90e980a9586b54776cf036336b0a8d3dc7a"), looks := true }, kinds := [], alts := [], laidByText := true, laidKinds := [.data, .data, .data, .data, .sentinel, .sentinel, .pinned], laidTests := true, laidLooks := .later }
def LabelsMayCardSaid : Prop := Claim7.holds Tryz.pinned (.plain (OpenSpec.ofChange labelsMaySpec)) labelsMayCard

/-- THE TIED CARD OF 'batonlaw05.LabelsUnlike'. -/
def labelsUnlikeCard : Claim7 := { stood := { row := labelsUnlikeRow, standIns := [], harness := (true, "2cd67c59be00145e6f157e59de45b90e980a9586b54776cf036336b0a8d3dc7a"), looks := true }, kinds := [], alts := [], laidByText := true, laidKinds := [.data, .data, .data, .data, .sentinel, .sentinel, .pinned], laidTests := true, laidLooks := .later }
def LabelsUnlikeCardSaid : Prop := Claim7.holds Tryz.pinned (.plain (OpenSpec.ofChange labelsUnlikeSpec)) labelsUnlikeCard

/-- THE TIED CARD OF 'batonlaw05.LabelsGets'. -/
def labelsGetsCard : Claim7 := { stood := { row := labelsGetsRow, standIns := [], harness := (true, "2cd67c59be00145e6f157e59de45b90e980a9586b54776cf036336b0a8d3dc7a"), looks := true }, kinds := [], alts := [], laidByText := true, laidKinds := [.data, .data, .data, .data, .sentinel, .sentinel, .pinned], laidTests := true, laidLooks := .later }
def LabelsGetsCardSaid : Prop := Claim7.holds Tryz.pinned (.plain (OpenSpec.ofChange labelsGetsSpec)) labelsGetsCard

/-- THE TIED CARD OF 'batonlaw05.LabelsWithout'. -/
def labelsWithoutCard : Claim7 := { stood := { row := labelsWithoutRow, standIns := [], harness := (true, "2cd67c59be00145e6f157e59de45b90e980a9586b54776cf036336b0a8d3dc7a"), looks := true }, kinds := [], alts := [], laidByText := true, laidKinds := [.data, .data, .data, .data, .sentinel, .sentinel, .pinned], laidTests := true, laidLooks := .later }
def LabelsWithoutCardSaid : Prop := Claim7.holds Tryz.pinned (.plain (OpenSpec.ofChange labelsWithoutSpec)) labelsWithoutCard

/-- THE TIED CARD OF 'batonlaw05.LabelsNames'. -/
def labelsNamesCard : Claim7 := { stood := { row := labelsNamesRow, standIns := [], harness := (true, "2cd67c59be00145e6f157e59de45b90e980a9586b54776cf036336b0a8d3dc7a"), looks := true }, kinds := [], alts := [], laidByText := true, laidKinds := [.data, .data, .data, .data, .sentinel, .sentinel, .pinned], laidTests := true, laidLooks := .later }
def LabelsNamesCardSaid : Prop := Claim7.holds Tryz.pinned (.plain (OpenSpec.ofChange labelsNamesSpec)) labelsNamesCard

/-- THE TIED CARD OF 'batonlaw05.LabelsKeys'. -/
def labelsKeysCard : Claim7 := { stood := { row := labelsKeysRow, standIns := [], harness := (true, "2cd67c59be00145e6f157e59de45b90e980a9586b54776cf036336b0a8d3dc7a"), looks := true }, kinds := [], alts := [], laidByText := true, laidKinds := [.data, .data, .data, .data, .sentinel, .sentinel, .pinned], laidTests := true, laidLooks := .later }
def LabelsKeysCardSaid : Prop := Claim7.holds Tryz.pinned (.plain (OpenSpec.ofChange labelsKeysSpec)) labelsKeysCard

/-- THE TIED CARD OF 'batonlaw05.LabelsBack'. -/
def labelsBackCard : Claim7 := { stood := { row := labelsBackRow, standIns := [], harness := (true, "2cd67c59be00145e6f157e59de45b90e980a9586b54776cf036336b0a8d3dc7a"), looks := true }, kinds := [], alts := [], laidByText := true, laidKinds := [.data, .data, .data, .data, .sentinel, .sentinel, .pinned], laidTests := true, laidLooks := .later }
def LabelsBackCardSaid : Prop := Claim7.holds Tryz.pinned (.plain (OpenSpec.ofChange labelsBackSpec)) labelsBackCard

/-- THE TIED CARD OF 'batonlaw05.LabelsNormal'. -/
def labelsNormalCard : Claim7 := { stood := { row := labelsNormalRow, standIns := [], harness := (true, "2cd67c59be00145e6f157e59de45b90e980a9586b54776cf036336b0a8d3dc7a"), looks := true }, kinds := [], alts := [], laidByText := true, laidKinds := [.data, .data, .data, .data, .sentinel, .sentinel, .pinned], laidTests := true, laidLooks := .later }
def LabelsNormalCardSaid : Prop := Claim7.holds Tryz.pinned (.plain (OpenSpec.ofChange labelsNormalSpec)) labelsNormalCard

/-- THE SECOND FORM's CARD OF 'batonlaw05.LabelsShows'. -/
def labelsShowsUptoCard : Claim7 := { stood := { row := labelsShowsUptoRow, standIns := [], harness := (true, "2cd67c59be00145e6f157e59de45b90e980a9586b54776cf036336b0a8d3dc7a"), looks := true }, kinds := [], alts := [], laidByText := true, laidKinds := [.data, .data, .data, .data, .sentinel, .sentinel, .pinned], laidTests := true, laidLooks := .later }
def LabelsShowsUptoCardSaid : Prop := Claim7.holds Tryz.pinned (.plain (OpenSpec.upto labelsShowsSpec)) labelsShowsUptoCard

/-- THE SECOND FORM's CARD OF 'batonlaw05.LabelsMay'. -/
def labelsMayUptoCard : Claim7 := { stood := { row := labelsMayUptoRow, standIns := [], harness := (true, "2cd67c59be00145e6f157e59de45b90e980a9586b54776cf036336b0a8d3dc7a"), looks := true }, kinds := [], alts := [], laidByText := true, laidKinds := [.data, .data, .data, .data, .sentinel, .sentinel, .pinned], laidTests := true, laidLooks := .later }
def LabelsMayUptoCardSaid : Prop := Claim7.holds Tryz.pinned (.plain (OpenSpec.upto labelsMaySpec)) labelsMayUptoCard

/-- THE SECOND FORM's CARD OF 'batonlaw05.LabelsUnlike'. -/
def labelsUnlikeUptoCard : Claim7 := { stood := { row := labelsUnlikeUptoRow, standIns := [], harness := (true, "2cd67c59be00145e6f157e59de45b90e980a9586b54776cf036336b0a8d3dc7a"), looks := true }, kinds := [], alts := [], laidByText := true, laidKinds := [.data, .data, .data, .data, .sentinel, .sentinel, .pinned], laidTests := true, laidLooks := .later }
def LabelsUnlikeUptoCardSaid : Prop := Claim7.holds Tryz.pinned (.plain (OpenSpec.upto labelsUnlikeSpec)) labelsUnlikeUptoCard

/-- THE SECOND FORM's CARD OF 'batonlaw05.LabelsGets'. -/
def labelsGetsUptoCard : Claim7 := { stood := { row := labelsGetsUptoRow, standIns := [], harness := (true, "2cd67c59be00145e6f157e59de45b90e980a9586b54776cf036336b0a8d3dc7a"), looks := true }, kinds := [], alts := [], laidByText := true, laidKinds := [.data, .data, .data, .data, .sentinel, .sentinel, .pinned], laidTests := true, laidLooks := .later }
def LabelsGetsUptoCardSaid : Prop := Claim7.holds Tryz.pinned (.plain (OpenSpec.upto labelsGetsSpec)) labelsGetsUptoCard

/-- THE SECOND FORM's CARD OF 'batonlaw05.LabelsWithout'. -/
def labelsWithoutUptoCard : Claim7 := { stood := { row := labelsWithoutUptoRow, standIns := [], harness := (true, "2cd67c59be00145e6f157e59de45b90e980a9586b54776cf036336b0a8d3dc7a"), looks := true }, kinds := [], alts := [], laidByText := true, laidKinds := [.data, .data, .data, .data, .sentinel, .sentinel, .pinned], laidTests := true, laidLooks := .later }
def LabelsWithoutUptoCardSaid : Prop := Claim7.holds Tryz.pinned (.plain (OpenSpec.upto labelsWithoutSpec)) labelsWithoutUptoCard

/-- THE SECOND FORM's CARD OF 'batonlaw05.LabelsNames'. -/
def labelsNamesUptoCard : Claim7 := { stood := { row := labelsNamesUptoRow, standIns := [], harness := (true, "2cd67c59be00145e6f157e59de45b90e980a9586b54776cf036336b0a8d3dc7a"), looks := true }, kinds := [], alts := [], laidByText := true, laidKinds := [.data, .data, .data, .data, .sentinel, .sentinel, .pinned], laidTests := true, laidLooks := .later }
def LabelsNamesUptoCardSaid : Prop := Claim7.holds Tryz.pinned (.plain (OpenSpec.upto labelsNamesSpec)) labelsNamesUptoCard

/-- THE SECOND FORM's CARD OF 'batonlaw05.LabelsKeys'. -/
def labelsKeysUptoCard : Claim7 := { stood := { row := labelsKeysUptoRow, standIns := [], harness := (true, "2cd67c59be00145e6f157e59de45b90e980a9586b54776cf036336b0a8d3dc7a"), looks := true }, kinds := [], alts := [], laidByText := true, laidKinds := [.data, .data, .data, .data, .sentinel, .sentinel, .pinned], laidTests := true, laidLooks := .later }
def LabelsKeysUptoCardSaid : Prop := Claim7.holds Tryz.pinned (.plain (OpenSpec.upto labelsKeysSpec)) labelsKeysUptoCard

/-- THE SECOND FORM's CARD OF 'batonlaw05.LabelsBack'. -/
def labelsBackUptoCard : Claim7 := { stood := { row := labelsBackUptoRow, standIns := [], harness := (true, "2cd67c59be00145e6f157e59de45b90e980a9586b54776cf036336b0a8d3dc7a"), looks := true }, kinds := [], alts := [], laidByText := true, laidKinds := [.data, .data, .data, .data, .sentinel, .sentinel, .pinned], laidTests := true, laidLooks := .later }
def LabelsBackUptoCardSaid : Prop := Claim7.holds Tryz.pinned (.plain (OpenSpec.upto labelsBackSpec)) labelsBackUptoCard

/-- THE SECOND FORM's CARD OF 'batonlaw05.LabelsNormal'. -/
def labelsNormalUptoCard : Claim7 := { stood := { row := labelsNormalUptoRow, standIns := [], harness := (true, "2cd67c59be00145e6f157e59de45b90e980a9586b54776cf036336b0a8d3dc7a"), looks := true }, kinds := [], alts := [], laidByText := true, laidKinds := [.data, .data, .data, .data, .sentinel, .sentinel, .pinned], laidTests := true, laidLooks := .later }
def LabelsNormalUptoCardSaid : Prop := Claim7.holds Tryz.pinned (.plain (OpenSpec.upto labelsNormalSpec)) labelsNormalUptoCard
end Rows
end Go.Proofs.YtkpjfibpaojelaaGreatDoor
