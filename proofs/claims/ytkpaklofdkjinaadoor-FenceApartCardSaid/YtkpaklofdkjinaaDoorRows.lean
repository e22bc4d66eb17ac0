/-
  NARROWER THAN 'FOR EVERY INPUT', by the rows' own cells (each row's printed sentence says how): FenceApart: laid · FenceSaid: laid · FenceNever: laid · FenceTwice: laid · FenceKept: laid · FenceNames: laid.
  DERIVED. THE GIVEN ROWS OF THIS SEAT. 6 by the template 'for every input the law returns true; each argument reads behind the call as it read before'; 0 by the template 'total and deterministic' (their statements: YtkpaklofdkjinaaDoorTotals.lean).
  GIVEN WITH THE SEED: the statements are not yours to turn. If you find one false, say at which input.
  Laid BY PROGRAM, IN A SANDBOX (cutbox-rows.mjs): the forced cells as the released guide's own fill.sh prints them over the translation a11e4198c3beba91… (all of the seat's roots in one cut). By AI agents, Wed Nov 11 2026. No macro, syntax, notation, axiom, sorry.
-/
import Derived.Test.YtkpaklofdkjinaaDoorChecked
import GoSem.PinnedTables
import GoSem.Claim
import GoSem.ClaimJoined
import GoSem.ClaimMapViews
import Derived.JoinedTies
import Derived.KernelRfl
namespace Go.Proofs.YtkpaklofdkjinaaDoor
/- THE CELL 'sum', in the pinned program and in every row, IS THE sha256 OF THE DUMP (.gsa) THAT YtkpaklofdkjinaaDoorProg.lean LOADS. Nothing in Lean hashes anything: it is a label: what it is worth is what the hold of that sum in a sandbox is worth. -/
noncomputable def Tryd.pinned : Pinned := { name := "ytkpaklofdkjinaadoor", sum := "a11e4198c3beba91b605c7df307cd17c545f8f19da27b5f4f1c2eb0a9b819545", checked := Tryd.checked }
namespace Rows
def none {H : Type} : Left H := { results := [], args := [] }

/- WHAT THE LISTED PACKAGE-LEVEL VARIABLES READ AS WHEN THE CALL BEGINS. Each datum BY PROGRAM (the guide's laid-datum.mjs) off the statement by which the dump's own 'gosem.cut.vars' lays the variable. In a bare row this is a premise. The card (YtkpaklofdkjinaaDoorCards.lean) ties it to the program's text. -/
def laid_unicode_utf8_acceptRanges {H : Type} : DataW H := .agg [.agg [.lit (.int .u8 128), .lit (.int .u8 191)], .agg [.lit (.int .u8 160), .lit (.int .u8 191)], .agg [.lit (.int .u8 128), .lit (.int .u8 159)], .agg [.lit (.int .u8 144), .lit (.int .u8 191)], .agg [.lit (.int .u8 128), .lit (.int .u8 143)], .agg [.lit (.int .u8 0), .lit (.int .u8 0)], .agg [.lit (.int .u8 0), .lit (.int .u8 0)], .agg [.lit (.int .u8 0), .lit (.int .u8 0)], .agg [.lit (.int .u8 0), .lit (.int .u8 0)], .agg [.lit (.int .u8 0), .lit (.int .u8 0)], .agg [.lit (.int .u8 0), .lit (.int .u8 0)], .agg [.lit (.int .u8 0), .lit (.int .u8 0)], .agg [.lit (.int .u8 0), .lit (.int .u8 0)], .agg [.lit (.int .u8 0), .lit (.int .u8 0)], .agg [.lit (.int .u8 0), .lit (.int .u8 0)], .agg [.lit (.int .u8 0), .lit (.int .u8 0)]]
/-- One of Go's own tables, pinned by name: the form's constant. -/
def laid_unicode_utf8_first : DataW Unit := Go.Pinned.utf8First

/-- 'batonlaw23.FenceApart': WHATEVER THE INPUT: true; the input reads as it did. -/
def fenceApartSpec : ChangeSpec := { name := "fenceApart", fn := fun _ => fun
  | [d1, d2] => { results := [.lit (.bool true)], args := [d1, d2] }
  | _ => none }
def fenceApartRow : OpenClaim := { program := "ytkpaklofdkjinaadoor", sum := "a11e4198c3beba91b605c7df307cd17c545f8f19da27b5f4f1c2eb0a9b819545", func := "baton/batonlaw23.FenceApart", spec := "fenceApart", unfollowed := true, recurses := true, named := ["unicode/utf8.first", "unicode/utf8.acceptRanges"], plainKeys := false, apart := false, laid := [("unicode/utf8.acceptRanges", laid_unicode_utf8_acceptRanges), ("unicode/utf8.first", laid_unicode_utf8_first)] }
def FenceApartSaid : Prop := fenceApartRow.holds Tryd.pinned (OpenSpec.ofChange fenceApartSpec)

/-- ITS FALSE NEIGHBOUR: 'it returns false'. Refute it at one input. -/
def fenceApartWrong : ChangeSpec := { name := "fenceApart", fn := fun _ => fun
  | [d1, d2] => { results := [.lit (.bool false)], args := [d1, d2] }
  | _ => none }
def FenceApartWrongFalsely : Prop := fenceApartRow.holds Tryd.pinned (OpenSpec.ofChange fenceApartWrong)

/-- 'batonlaw23.FenceSaid': WHATEVER THE INPUT: true; the input reads as it did. -/
def fenceSaidSpec : ChangeSpec := { name := "fenceSaid", fn := fun _ => fun
  | [d] => { results := [.lit (.bool true)], args := [d] }
  | _ => none }
def fenceSaidRow : OpenClaim := { program := "ytkpaklofdkjinaadoor", sum := "a11e4198c3beba91b605c7df307cd17c545f8f19da27b5f4f1c2eb0a9b819545", func := "baton/batonlaw23.FenceSaid", spec := "fenceSaid", unfollowed := true, recurses := true, named := ["unicode/utf8.first", "unicode/utf8.acceptRanges"], plainKeys := false, apart := false, laid := [("unicode/utf8.acceptRanges", laid_unicode_utf8_acceptRanges), ("unicode/utf8.first", laid_unicode_utf8_first)] }
def FenceSaidSaid : Prop := fenceSaidRow.holds Tryd.pinned (OpenSpec.ofChange fenceSaidSpec)

/-- ITS FALSE NEIGHBOUR: 'it returns false'. Refute it at one input. -/
def fenceSaidWrong : ChangeSpec := { name := "fenceSaid", fn := fun _ => fun
  | [d] => { results := [.lit (.bool false)], args := [d] }
  | _ => none }
def FenceSaidWrongFalsely : Prop := fenceSaidRow.holds Tryd.pinned (OpenSpec.ofChange fenceSaidWrong)

/-- 'batonlaw23.FenceNever': WHATEVER THE INPUT: true; the input reads as it did. -/
def fenceNeverSpec : ChangeSpec := { name := "fenceNever", fn := fun _ => fun
  | [d] => { results := [.lit (.bool true)], args := [d] }
  | _ => none }
def fenceNeverRow : OpenClaim := { program := "ytkpaklofdkjinaadoor", sum := "a11e4198c3beba91b605c7df307cd17c545f8f19da27b5f4f1c2eb0a9b819545", func := "baton/batonlaw23.FenceNever", spec := "fenceNever", inPlace := ["maps.clone"], unfollowed := true, recurses := true, named := ["unicode/utf8.first", "unicode/utf8.acceptRanges"], plainKeys := false, apart := false, laid := [("unicode/utf8.acceptRanges", laid_unicode_utf8_acceptRanges), ("unicode/utf8.first", laid_unicode_utf8_first)] }
def FenceNeverSaid : Prop := fenceNeverRow.holds Tryd.pinned (OpenSpec.ofChange fenceNeverSpec)

/-- ITS FALSE NEIGHBOUR: 'it returns false'. Refute it at one input. -/
def fenceNeverWrong : ChangeSpec := { name := "fenceNever", fn := fun _ => fun
  | [d] => { results := [.lit (.bool false)], args := [d] }
  | _ => none }
def FenceNeverWrongFalsely : Prop := fenceNeverRow.holds Tryd.pinned (OpenSpec.ofChange fenceNeverWrong)

/-- 'batonlaw23.FenceTwice': WHATEVER THE INPUT: true; the input reads as it did. -/
def fenceTwiceSpec : ChangeSpec := { name := "fenceTwice", fn := fun _ => fun
  | [d] => { results := [.lit (.bool true)], args := [d] }
  | _ => none }
def fenceTwiceRow : OpenClaim := { program := "ytkpaklofdkjinaadoor", sum := "a11e4198c3beba91b605c7df307cd17c545f8f19da27b5f4f1c2eb0a9b819545", func := "baton/batonlaw23.FenceTwice", spec := "fenceTwice", inPlace := ["maps.clone"], unfollowed := true, recurses := true, named := ["unicode/utf8.first", "unicode/utf8.acceptRanges"], plainKeys := false, apart := false, laid := [("unicode/utf8.acceptRanges", laid_unicode_utf8_acceptRanges), ("unicode/utf8.first", laid_unicode_utf8_first)] }
def FenceTwiceSaid : Prop := fenceTwiceRow.holds Tryd.pinned (OpenSpec.ofChange fenceTwiceSpec)

/-- ITS FALSE NEIGHBOUR: 'it returns false'. Refute it at one input. -/
def fenceTwiceWrong : ChangeSpec := { name := "fenceTwice", fn := fun _ => fun
  | [d] => { results := [.lit (.bool false)], args := [d] }
  | _ => none }
def FenceTwiceWrongFalsely : Prop := fenceTwiceRow.holds Tryd.pinned (OpenSpec.ofChange fenceTwiceWrong)

/-- 'batonlaw23.FenceKept': WHATEVER THE INPUT: true; the input reads as it did. -/
def fenceKeptSpec : ChangeSpec := { name := "fenceKept", fn := fun _ => fun
  | [d] => { results := [.lit (.bool true)], args := [d] }
  | _ => none }
def fenceKeptRow : OpenClaim := { program := "ytkpaklofdkjinaadoor", sum := "a11e4198c3beba91b605c7df307cd17c545f8f19da27b5f4f1c2eb0a9b819545", func := "baton/batonlaw23.FenceKept", spec := "fenceKept", unfollowed := true, recurses := true, named := ["unicode/utf8.first", "unicode/utf8.acceptRanges"], plainKeys := false, apart := false, laid := [("unicode/utf8.acceptRanges", laid_unicode_utf8_acceptRanges), ("unicode/utf8.first", laid_unicode_utf8_first)] }
def FenceKeptSaid : Prop := fenceKeptRow.holds Tryd.pinned (OpenSpec.ofChange fenceKeptSpec)

/-- ITS FALSE NEIGHBOUR: 'it returns false'. Refute it at one input. -/
def fenceKeptWrong : ChangeSpec := { name := "fenceKept", fn := fun _ => fun
  | [d] => { results := [.lit (.bool false)], args := [d] }
  | _ => none }
def FenceKeptWrongFalsely : Prop := fenceKeptRow.holds Tryd.pinned (OpenSpec.ofChange fenceKeptWrong)

/-- 'batonlaw23.FenceNames': WHATEVER THE INPUT: true; the input reads as it did. -/
def fenceNamesSpec : ChangeSpec := { name := "fenceNames", fn := fun _ => fun
  | [] => { results := [.lit (.bool true)], args := [] }
  | _ => none }
def fenceNamesRow : OpenClaim := { program := "ytkpaklofdkjinaadoor", sum := "a11e4198c3beba91b605c7df307cd17c545f8f19da27b5f4f1c2eb0a9b819545", func := "baton/batonlaw23.FenceNames", spec := "fenceNames", inPlace := ["maps.clone"], unfollowed := true, recurses := true, named := ["unicode/utf8.first", "unicode/utf8.acceptRanges"], plainKeys := false, apart := false, laid := [("unicode/utf8.acceptRanges", laid_unicode_utf8_acceptRanges), ("unicode/utf8.first", laid_unicode_utf8_first)] }
def FenceNamesSaid : Prop := fenceNamesRow.holds Tryd.pinned (OpenSpec.ofChange fenceNamesSpec)

/-- ITS FALSE NEIGHBOUR: 'it returns false'. Refute it at one input. -/
def fenceNamesWrong : ChangeSpec := { name := "fenceNames", fn := fun _ => fun
  | [] => { results := [.lit (.bool false)], args := [] }
  | _ => none }
def FenceNamesWrongFalsely : Prop := fenceNamesRow.holds Tryd.pinned (OpenSpec.ofChange fenceNamesWrong)

/- THE SECOND FORM. 'bulk': how many values and letters a reading holds, each counted each time it is reached (what is shared counts as often as it is met; a slice's spare places count too). A statement '..UptoSaid' is the law's where the arguments, and the package variables that the reading takes, are together of bulk at most 1048576: NARROWER than '..Said'. Prove '..Said' where nothing that the law and all that it calls make is longer than what came in: it says more and counts as full. Else prove '..UptoSaid'. A law counts once. -/
mutual
def uptoBulk {H : Type} : DataW H → Nat
  | .lit (.string bytes) => bytes.length + 1
  | .lit _ => 1
  | .nil => 1
  | .ptr d => uptoBulk d + 1
  | .slice elems spare => uptoBulkAll elems + uptoBulkAll spare + 1
  | .agg parts => uptoBulkAll parts + 1
  | .iface _ d => uptoBulk d + 1
  | .map entries => uptoBulkEntries entries + 1
  | .held _ => 1
def uptoBulkAll {H : Type} : List (DataW H) → Nat
  | [] => 0
  | d :: r => uptoBulk d + uptoBulkAll r
def uptoBulkEntries {H : Type} : List (Lit × DataW H) → Nat
  | [] => 0
  | x :: r => uptoBulkEntry x + uptoBulkEntries r
def uptoBulkEntry {H : Type} : Lit × DataW H → Nat
  | (.string bytes, d) => bytes.length + uptoBulk d + 1
  | (_, d) => uptoBulk d + 1
 end
def uptoSmall : (H : Type) → List (DataW H) → Bool := fun _ ds => decide (uptoBulkAll ds ≤ 1048576)
def OpenSpec.upto (s : _root_.Go.ChangeSpec) : _root_.Go.OpenSpec := { _root_.Go.OpenSpec.ofChange s with cond := some uptoSmall }

/-- 'batonlaw23.FenceApart', WHERE WHAT IT READS IS OF BULK AT MOST 1048576: true; the input reads as it did. -/
def fenceApartUptoRow : OpenClaim := { program := "ytkpaklofdkjinaadoor", sum := "a11e4198c3beba91b605c7df307cd17c545f8f19da27b5f4f1c2eb0a9b819545", func := "baton/batonlaw23.FenceApart", spec := "fenceApart", unfollowed := true, recurses := true, named := ["unicode/utf8.first", "unicode/utf8.acceptRanges"], plainKeys := false, apart := false, laid := [("unicode/utf8.acceptRanges", laid_unicode_utf8_acceptRanges), ("unicode/utf8.first", laid_unicode_utf8_first)], narrowed := true }
def FenceApartUptoSaid : Prop := fenceApartUptoRow.holds Tryd.pinned (OpenSpec.upto fenceApartSpec)

/-- 'batonlaw23.FenceSaid', WHERE WHAT IT READS IS OF BULK AT MOST 1048576: true; the input reads as it did. -/
def fenceSaidUptoRow : OpenClaim := { program := "ytkpaklofdkjinaadoor", sum := "a11e4198c3beba91b605c7df307cd17c545f8f19da27b5f4f1c2eb0a9b819545", func := "baton/batonlaw23.FenceSaid", spec := "fenceSaid", unfollowed := true, recurses := true, named := ["unicode/utf8.first", "unicode/utf8.acceptRanges"], plainKeys := false, apart := false, laid := [("unicode/utf8.acceptRanges", laid_unicode_utf8_acceptRanges), ("unicode/utf8.first", laid_unicode_utf8_first)], narrowed := true }
def FenceSaidUptoSaid : Prop := fenceSaidUptoRow.holds Tryd.pinned (OpenSpec.upto fenceSaidSpec)

/-- 'batonlaw23.FenceNever', WHERE WHAT IT READS IS OF BULK AT MOST 1048576: true; the input reads as it did. -/
def fenceNeverUptoRow : OpenClaim := { program := "ytkpaklofdkjinaadoor", sum := "a11e4198c3beba91b605c7df307cd17c545f8f19da27b5f4f1c2eb0a9b819545", func := "baton/batonlaw23.FenceNever", spec := "fenceNever", inPlace := ["maps.clone"], unfollowed := true, recurses := true, named := ["unicode/utf8.first", "unicode/utf8.acceptRanges"], plainKeys := false, apart := false, laid := [("unicode/utf8.acceptRanges", laid_unicode_utf8_acceptRanges), ("unicode/utf8.first", laid_unicode_utf8_first)], narrowed := true }
def FenceNeverUptoSaid : Prop := fenceNeverUptoRow.holds Tryd.pinned (OpenSpec.upto fenceNeverSpec)

/-- 'batonlaw23.FenceTwice', WHERE WHAT IT READS IS OF BULK AT MOST 1048576: true; the input reads as it did. -/
def fenceTwiceUptoRow : OpenClaim := { program := "ytkpaklofdkjinaadoor", sum := "a11e4198c3beba91b605c7df307cd17c545f8f19da27b5f4f1c2eb0a9b819545", func := "baton/batonlaw23.FenceTwice", spec := "fenceTwice", inPlace := ["maps.clone"], unfollowed := true, recurses := true, named := ["unicode/utf8.first", "unicode/utf8.acceptRanges"], plainKeys := false, apart := false, laid := [("unicode/utf8.acceptRanges", laid_unicode_utf8_acceptRanges), ("unicode/utf8.first", laid_unicode_utf8_first)], narrowed := true }
def FenceTwiceUptoSaid : Prop := fenceTwiceUptoRow.holds Tryd.pinned (OpenSpec.upto fenceTwiceSpec)

/-- 'batonlaw23.FenceKept', WHERE WHAT IT READS IS OF BULK AT MOST 1048576: true; the input reads as it did. -/
def fenceKeptUptoRow : OpenClaim := { program := "ytkpaklofdkjinaadoor", sum := "a11e4198c3beba91b605c7df307cd17c545f8f19da27b5f4f1c2eb0a9b819545", func := "baton/batonlaw23.FenceKept", spec := "fenceKept", unfollowed := true, recurses := true, named := ["unicode/utf8.first", "unicode/utf8.acceptRanges"], plainKeys := false, apart := false, laid := [("unicode/utf8.acceptRanges", laid_unicode_utf8_acceptRanges), ("unicode/utf8.first", laid_unicode_utf8_first)], narrowed := true }
def FenceKeptUptoSaid : Prop := fenceKeptUptoRow.holds Tryd.pinned (OpenSpec.upto fenceKeptSpec)

/-- 'batonlaw23.FenceNames', WHERE WHAT IT READS IS OF BULK AT MOST 1048576: true; the input reads as it did. -/
def fenceNamesUptoRow : OpenClaim := { program := "ytkpaklofdkjinaadoor", sum := "a11e4198c3beba91b605c7df307cd17c545f8f19da27b5f4f1c2eb0a9b819545", func := "baton/batonlaw23.FenceNames", spec := "fenceNames", inPlace := ["maps.clone"], unfollowed := true, recurses := true, named := ["unicode/utf8.first", "unicode/utf8.acceptRanges"], plainKeys := false, apart := false, laid := [("unicode/utf8.acceptRanges", laid_unicode_utf8_acceptRanges), ("unicode/utf8.first", laid_unicode_utf8_first)], narrowed := true }
def FenceNamesUptoSaid : Prop := fenceNamesUptoRow.holds Tryd.pinned (OpenSpec.upto fenceNamesSpec)

end Rows
end Go.Proofs.YtkpaklofdkjinaaDoor
