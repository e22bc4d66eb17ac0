/-
  DERIVED. GIVEN WITH THE SEED: THE CARDS: each row of YtkpaklofdkjinaaDoorRows.lean that lists a variable, with what it lists TIED to the program's text (the seventh form; the later family's looks); each row that meets fmt, with fmt's text TOLD by the authors' own Lean function (tested against real Go, not proved from fmt's source: count such statements apart). THE CARD IS WHAT COUNTS. Prove the row's statement (the work); the ties are given (YtkpaklofdkjinaaDoorTie.lean); close each card by the builder's one call (the guide's Derived/Test/ToyasCard.lean, 'card_holds'). Laid BY PROGRAM, IN A SANDBOX (cutbox-door.mjs). By AI agents, Wed Nov 11 2026. No macro, syntax, notation, axiom, sorry.
-/
import Derived.Test.YtkpaklofdkjinaaDoorRows
import GoSem.ClaimSeven
namespace Go.Proofs.YtkpaklofdkjinaaDoor
namespace Rows

/-- THE TIED CARD OF 'batonlaw23.FenceApart'. -/
def fenceApartCard : Claim7 := { stood := { row := fenceApartRow, standIns := [], harness := (true, "b7ba32aa656e3f4ed0ffcd159028cd7cee6d9944f6ef17273fe1813998ce1728"), looks := true }, kinds := [], alts := [], laidByText := true, laidKinds := [.data, .pinned], laidTests := true, laidLooks := .later }
def FenceApartCardSaid : Prop := Claim7.holds Tryd.pinned (.plain (OpenSpec.ofChange fenceApartSpec)) fenceApartCard

/-- THE TIED CARD OF 'batonlaw23.FenceSaid'. -/
def fenceSaidCard : Claim7 := { stood := { row := fenceSaidRow, standIns := [], harness := (true, "b7ba32aa656e3f4ed0ffcd159028cd7cee6d9944f6ef17273fe1813998ce1728"), looks := true }, kinds := [], alts := [], laidByText := true, laidKinds := [.data, .pinned], laidTests := true, laidLooks := .later }
def FenceSaidCardSaid : Prop := Claim7.holds Tryd.pinned (.plain (OpenSpec.ofChange fenceSaidSpec)) fenceSaidCard

/-- THE TIED CARD OF 'batonlaw23.FenceNever'. -/
def fenceNeverCard : Claim7 := { stood := { row := fenceNeverRow, standIns := [], harness := (true, "b7ba32aa656e3f4ed0ffcd159028cd7cee6d9944f6ef17273fe1813998ce1728"), looks := true }, kinds := [], alts := [], laidByText := true, laidKinds := [.data, .pinned], laidTests := true, laidLooks := .later }
def FenceNeverCardSaid : Prop := Claim7.holds Tryd.pinned (.plain (OpenSpec.ofChange fenceNeverSpec)) fenceNeverCard

/-- THE TIED CARD OF 'batonlaw23.FenceTwice'. -/
def fenceTwiceCard : Claim7 := { stood := { row := fenceTwiceRow, standIns := [], harness := (true, "b7ba32aa656e3f4ed0ffcd159028cd7cee6d9944f6ef17273fe1813998ce1728"), looks := true }, kinds := [], alts := [], laidByText := true, laidKinds := [.data, .pinned], laidTests := true, laidLooks := .later }
def FenceTwiceCardSaid : Prop := Claim7.holds Tryd.pinned (.plain (OpenSpec.ofChange fenceTwiceSpec)) fenceTwiceCard

/-- THE TIED CARD OF 'batonlaw23.FenceKept'. -/
def fenceKeptCard : Claim7 := { stood := { row := fenceKeptRow, standIns := [], harness := (true, "b7ba32aa656e3f4ed0ffcd159028cd7cee6d9944f6ef17273fe1813998ce1728"), looks := true }, kinds := [], alts := [], laidByText := true, laidKinds := [.data, .pinned], laidTests := true, laidLooks := .later }
def FenceKeptCardSaid : Prop := Claim7.holds Tryd.pinned (.plain (OpenSpec.ofChange fenceKeptSpec)) fenceKeptCard

/-- THE TIED CARD OF 'batonlaw23.FenceNames'. -/
def fenceNamesCard : Claim7 := { stood := { row := fenceNamesRow, standIns := [], harness := (true, "b7ba32aa656e3f4ed0ffcd159028cd7cee6d9944f6ef17273fe1813998ce1728"), looks := true }, kinds := [], alts := [], laidByText := true, laidKinds := [.data, .pinned], laidTests := true, laidLooks := .later }
def FenceNamesCardSaid : Prop := Claim7.holds Tryd.pinned (.plain (OpenSpec.ofChange fenceNamesSpec)) fenceNamesCard

/-- THE SECOND FORM's CARD OF 'batonlaw23.FenceApart'. -/
def fenceApartUptoCard : Claim7 := { stood := { row := fenceApartUptoRow, standIns := [], harness := (true, "b7ba32aa656e3f4ed0ffcd159028cd7cee6d9944f6ef17273fe1813998ce1728"), looks := true }, kinds := [], alts := [], laidByText := true, laidKinds := [.data, .pinned], laidTests := true, laidLooks := .later }
def FenceApartUptoCardSaid : Prop := Claim7.holds Tryd.pinned (.plain (OpenSpec.upto fenceApartSpec)) fenceApartUptoCard

/-- THE SECOND FORM's CARD OF 'batonlaw23.FenceSaid'. -/
def fenceSaidUptoCard : Claim7 := { stood := { row := fenceSaidUptoRow, standIns := [], harness := (true, "b7ba32aa656e3f4ed0ffcd159028cd7cee6d9944f6ef17273fe1813998ce1728"), looks := true }, kinds := [], alts := [], laidByText := true, laidKinds := [.data, .pinned], laidTests := true, laidLooks := .later }
def FenceSaidUptoCardSaid : Prop := Claim7.holds Tryd.pinned (.plain (OpenSpec.upto fenceSaidSpec)) fenceSaidUptoCard

/-- THE SECOND FORM's CARD OF 'batonlaw23.FenceNever'. -/
def fenceNeverUptoCard : Claim7 := { stood := { row := fenceNeverUptoRow, standIns := [], harness := (true, "b7ba32aa656e3f4ed0ffcd159028cd7cee6d9944f6ef17273fe1813998ce1728"), looks := true }, kinds := [], alts := [], laidByText := true, laidKinds := [.data, .pinned], laidTests := true, laidLooks := .later }
def FenceNeverUptoCardSaid : Prop := Claim7.holds Tryd.pinned (.plain (OpenSpec.upto fenceNeverSpec)) fenceNeverUptoCard

/-- THE SECOND FORM's CARD OF 'batonlaw23.FenceTwice'. -/
def fenceTwiceUptoCard : Claim7 := { stood := { row := fenceTwiceUptoRow, standIns := [], harness := (true, "b7ba32aa656e3f4ed0ffcd159028cd7cee6d9944f6ef17273fe1813998ce1728"), looks := true }, kinds := [], alts := [], laidByText := true, laidKinds := [.data, .pinned], laidTests := true, laidLooks := .later }
def FenceTwiceUptoCardSaid : Prop := Claim7.holds Tryd.pinned (.plain (OpenSpec.upto fenceTwiceSpec)) fenceTwiceUptoCard

/-- THE SECOND FORM's CARD OF 'batonlaw23.FenceKept'. -/
def fenceKeptUptoCard : Claim7 := { stood := { row := fenceKeptUptoRow, standIns := [], harness := (true, "b7ba32aa656e3f4ed0ffcd159028cd7cee6d9944f6ef17273fe1813998ce1728"), looks := true }, kinds := [], alts := [], laidByText := true, laidKinds := [.data, .pinned], laidTests := true, laidLooks := .later }
def FenceKeptUptoCardSaid : Prop := Claim7.holds Tryd.pinned (.plain (OpenSpec.upto fenceKeptSpec)) fenceKeptUptoCard

/-- THE SECOND FORM's CARD OF 'batonlaw23.FenceNames'. -/
def fenceNamesUptoCard : Claim7 := { stood := { row := fenceNamesUptoRow, standIns := [], harness := (true, "b7ba32aa656e3f4ed0ffcd159028cd7cee6d9944f6ef17273fe1813998ce1728"), looks := true }, kinds := [], alts := [], laidByText := true, laidKinds := [.data, .pinned], laidTests := true, laidLooks := .later }
def FenceNamesUptoCardSaid : Prop := Claim7.holds Tryd.pinned (.plain (OpenSpec.upto fenceNamesSpec)) fenceNamesUptoCard
end Rows
end Go.Proofs.YtkpaklofdkjinaaDoor
