/- The seat's program on the abstract side: the orders of its regions, its variables, what is asked of it once. -/
import Derived.Test.YtkpjfibpaojelaaDoorRows
import Derived.Test.YtkpjfibpaojelaaDoorTie
import Derived.Test.YtkpjfibpaojelaaDoorAbsE
namespace Go.Proofs.YtkpjfibpaojelaaDoor
open Go Go.Abs
set_option maxRecDepth 100000
def plans : Nat → Nat → Option (List Nat)
  | 7, 7 => some (List.range 11)
  | 11, 5 => some [0, 1, 2, 4, 5, 3, 6, 7]
  | 12, 7 => some [0, 1, 2, 3, 4, 6, 7, 5, 8, 9, 10, 11, 12]
  | 12, 9 => some [0, 1, 2, 3, 4, 6, 7, 10, 11, 13, 14, 5, 8, 9, 12, 15, 16, 17, 18, 19, 20]
  | 12, 17 => some (List.range 17)
  | 12, 21 => some (List.range 27)
  | 12, 25 => some (List.range 37)
  | 13, 4 => some (List.range 25)
  | 19, 1 => some (List.range 19)
  | 19, 2 => some (List.range 39)
  | 24, 1 => some [0, 1, 2, 3, 5, 6, 7, 8, 9, 4, 10, 11]
  | 25, 3 => some (List.range 13)
  | 32, 0 => some [0, 1, 2, 3, 4, 5, 6, 7, 9, 10, 11, 12, 13, 8, 14, 15]
  | 41, 7 => some (List.range 15)
  | 41, 8 => some (List.range 15)
  | 41, 9 => some (List.range 15)
  | 41, 10 => some (List.range 15)
  | 41, 17 => some (List.range 15)
  | 41, 18 => some (List.range 15)
  | 41, 23 => some (List.range 15)
  | 54, 3 => some (List.range 12)
  | 66, 4 => some [0, 1, 2, 4, 5, 3, 6, 7]
  | 84, 1 => some [0, 1, 3, 2, 4, 5, 6]
  | 85, 1 => some [0, 1, 3, 2, 4, 5, 6]
  | 88, 6 => some (List.range 7)
  | 88, 7 => some (List.range 9)
  | 88, 14 => some (List.range 11)
  | 88, 31 => some (List.range 11)
  | _, _ => none

def deB32 : List Nat := [0, 1, 28, 2, 29, 14, 24, 3, 30, 22, 20, 15, 25, 17, 4, 8, 31, 27, 13, 23, 21, 19, 16, 7, 26, 12, 18, 6, 11, 5, 10, 9]
def deB64 : List Nat := [0, 1, 56, 2, 57, 49, 28, 3, 61, 58, 42, 50, 38, 29, 17, 4, 62, 47, 59, 36, 45, 43, 51, 22, 53, 39, 33, 30, 24, 18, 12, 5, 63, 55, 48, 27, 60, 41, 37, 16, 46, 35, 44, 21, 52, 32, 23, 11, 54, 26, 40, 15, 34, 20, 31, 10, 25, 14, 19, 9, 13, 8, 7, 6]
def pow10 : List Nat := [1, 10, 100, 1000, 10000, 100000, 1000000, 10000000, 100000000, 1000000000, 10000000000, 100000000000, 1000000000000, 10000000000000, 100000000000000, 1000000000000000, 10000000000000000, 100000000000000000, 1000000000000000000, 10000000000000000000]
def accs : List (List Nat) := [[128, 191], [160, 191], [128, 159], [144, 191], [128, 143], [0, 0], [0, 0], [0, 0], [0, 0], [0, 0], [0, 0], [0, 0], [0, 0], [0, 0], [0, 0], [0, 0]]
def laidL : Laid := [(0, .u8, Go.Pinned.utf8FirstZ), (1, .u8, accs.flatten), (2, .u64, pow10), (4, .u8, deB32), (5, .u8, deB64)]

theorem prog_facts : progB Tryd.prog plans = true := by kernel_rfl
theorem pok : POk Tryd.prog := (progB_ok prog_facts).1
theorem plans_ok : PlansOk Tryd.prog plans := (progB_ok prog_facts).2
theorem laidL_lt : (laidL.all fun x => decide (x.1 < Tryd.prog.globals.size)) = true := by kernel_rfl

theorem laidW_of {W : World} (h : laidMet Tryd.prog Rows.labelsRunesRow.laid W) : LaidW W laidL := by
  have h0 : Lib.VarReads Tryd.prog W "unicode/utf8.first" Rows.laid_unicode_utf8_first := Lib.laidMet.reads h (by unfold Rows.labelsRunesRow; simp)
  have h1 : Lib.VarReads Tryd.prog W "unicode/utf8.acceptRanges" Rows.laid_unicode_utf8_acceptRanges := Lib.laidMet.reads h (by unfold Rows.labelsRunesRow; simp)
  have h2 : Lib.VarReads Tryd.prog W "internal/strconv.uint64pow10" Rows.laid_internal_strconv_uint64pow10 := Lib.laidMet.reads h (by unfold Rows.labelsRunesRow; simp)
  have h4 : Lib.VarReads Tryd.prog W "math/bits.deBruijn32tab" Rows.laid_math_bits_deBruijn32tab := Lib.laidMet.reads h (by unfold Rows.labelsRunesRow; simp)
  have h5 : Lib.VarReads Tryd.prog W "math/bits.deBruijn64tab" Rows.laid_math_bits_deBruijn64tab := Lib.laidMet.reads h (by unfold Rows.labelsRunesRow; simp)
  intro x hx
  simp only [laidL, List.mem_cons, List.not_mem_nil, or_false] at hx
  rcases hx with rfl | rfl | rfl | rfl | rfl
  · exact laid_tab (t := 45) (e := 5) (m := 256) (by kernel_rfl) (by kernel_rfl) (by kernel_rfl) (by kernel_rfl) (by kernel_rfl) (by kernel_rfl) h0
  · refine laid_structs (t := 48) (e := 47) (m := 16) (fs := #[{ name := "lo", type := 5, offset := 0, embedded := false, tag := "", pkgPath := "unicode/utf8", byteOffset := 0 }, { name := "hi", type := 5, offset := 1, embedded := false, tag := "", pkgPath := "unicode/utf8", byteOffset := 1 }])
      (by kernel_rfl) (by kernel_rfl) (by kernel_rfl) (by kernel_rfl) ?_ (by kernel_rfl) (by kernel_rfl) (by kernel_rfl) (by decide) h1
    intro i f hi
    match i, hi with
    | 0, hi => simp at hi; subst hi; exact ⟨by kernel_rfl, rfl, by kernel_rfl⟩
    | 1, hi => simp at hi; subst hi; exact ⟨by kernel_rfl, rfl, by kernel_rfl⟩
    | i + 2, hi => simp at hi
  · exact laid_tab (t := 91) (e := 68) (m := 20) (by kernel_rfl) (by kernel_rfl) (by kernel_rfl) (by kernel_rfl) (by kernel_rfl) (by kernel_rfl) h2
  · exact laid_tab (t := 100) (e := 5) (m := 32) (by kernel_rfl) (by kernel_rfl) (by kernel_rfl) (by kernel_rfl) (by kernel_rfl) (by kernel_rfl) h4
  · exact laid_tab (t := 101) (e := 5) (m := 64) (by kernel_rfl) (by kernel_rfl) (by kernel_rfl) (by kernel_rfl) (by kernel_rfl) (by kernel_rfl) h5
end Go.Proofs.YtkpjfibpaojelaaDoor
