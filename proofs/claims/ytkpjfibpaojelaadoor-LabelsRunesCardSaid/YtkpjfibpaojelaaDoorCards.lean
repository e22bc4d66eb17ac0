/-
  DERIVED. GIVEN WITH THE SEED: THE CARDS: each row of YtkpjfibpaojelaaDoorRows.lean that lists a variable, with what it lists TIED to the program's text (the seventh form; the later family's looks); each row that meets fmt, with fmt's text TOLD by the authors' own Lean function (tested against real Go, not proved from fmt's source: count such statements apart). THE CARD IS WHAT COUNTS. Prove the row's statement (the work); the ties are given (YtkpjfibpaojelaaDoorTie.lean); close each card by the builder's one call (the guide's Derived/Test/ToyasCard.lean, 'card_holds'). Laid BY PROGRAM, IN A SANDBOX (cutbox-door.mjs). By AI agents, Wed Nov 11 2026. No macro, syntax, notation, axiom, sorry.
-/
import Derived.Test.YtkpjfibpaojelaaDoorRows
import GoSem.ClaimSeven
namespace Go.Proofs.YtkpjfibpaojelaaDoor
namespace Rows

/-- THE TIED CARD OF 'batonlaw05.LabelsRunes'. -/
def labelsRunesCard : Claim7 := { stood := { row := labelsRunesRow, standIns := [], harness := (true, "de810aded446440c25b7d7eaa3524df89bb97b23a3f81f0e457476b4c63e0ad5"), looks := true }, kinds := [], alts := [], laidByText := true, laidKinds := [.data, .data, .data, .data, .sentinel, .sentinel, .pinned], laidTests := true, laidLooks := .later }
def LabelsRunesCardSaid : Prop := Claim7.holds Tryd.pinned (.plain (OpenSpec.ofChange labelsRunesSpec)) labelsRunesCard

/-- THE SECOND FORM's CARD OF 'batonlaw05.LabelsRunes'. -/
def labelsRunesUptoCard : Claim7 := { stood := { row := labelsRunesUptoRow, standIns := [], harness := (true, "de810aded446440c25b7d7eaa3524df89bb97b23a3f81f0e457476b4c63e0ad5"), looks := true }, kinds := [], alts := [], laidByText := true, laidKinds := [.data, .data, .data, .data, .sentinel, .sentinel, .pinned], laidTests := true, laidLooks := .later }
def LabelsRunesUptoCardSaid : Prop := Claim7.holds Tryd.pinned (.plain (OpenSpec.upto labelsRunesSpec)) labelsRunesUptoCard
end Rows
end Go.Proofs.YtkpjfibpaojelaaDoor
