/- labels: how labels lie in memory; what may be a name, a value, labels. -/
import Derived.Test.YtkpjfibpaojelaaGreatDoorRunes
import Derived.Test.YtkpjfibpaojelaaGreatDoorLab1
namespace Go.Proofs.YtkpjfibpaojelaaGreatDoor
open Go Go.Abs
set_option maxRecDepth 100000
set_option maxHeartbeats 2000000

/-- The program's variables lie in a heap. -/
def Laid0 (h : Heap) : Prop := ∃ c, (laidHeap c laidL).sub h
theorem Laid0.keep {h h' : Heap} (l : Laid0 h) (s : SubBut h h' []) : Laid0 h' := let ⟨c, q⟩ := l; ⟨c, Heap.sub_trans q s.sub⟩
theorem Laid0.sub {h h' : Heap} (l : Laid0 h) (s : h.sub h') : Laid0 h' := let ⟨c, q⟩ := l; ⟨c, Heap.sub_trans q s⟩

abbrev Lab := ByteArray × ByteArray
def encLab : Enc Lab := ⟨2, fun x => [.string x.1, .string x.2], fun _ => rfl, by decide⟩
theorem appLab : AppT Tryz.prog encLab 22 40 32 := ⟨by kernel_rfl, by kernel_rfl, by kernel_rfl, fun _ => rfl⟩

theorem boolEql : ∀ x y : Bool, binE Tryz.prog .eql 4 false false (.bool x) (.bool y) = some (.bool (x == y)) := by
  intro x y; cases x <;> cases y <;> kernel_rfl
theorem boolNeq : ∀ x y : Bool, binE Tryz.prog .neq 4 false false (.bool x) (.bool y) = some (.bool (x != y)) := by
  intro x y; cases x <;> cases y <;> kernel_rfl
/-- Whether a byte may stand in a name. -/
def letterB (c : Int) (first : Bool) : Bool := decide (97 ≤ c ∧ c ≤ 122 ∨ 65 ≤ c ∧ c ≤ 90 ∨ c = 95) || (decide (48 ≤ c ∧ c ≤ 57) && !first)
def mayNameB (s : ByteArray) : Bool := decide (1 ≤ s.data.toList.length ∧ s.data.toList.length ≤ 64) && (List.range s.data.toList.length).all fun i => letterB (bt s (i : Nat)) (decide (i = 0))
theorem letterB_first {c : Int} (h : letterB c true = true) : ¬ (48 ≤ c ∧ c ≤ 57) := by
  simp only [letterB, Bool.not_true, Bool.and_false, Bool.or_false, decide_eq_true_eq] at h
  omega
theorem letter_yes {c : Int} {b : Bool} (h : 97 ≤ c ∧ c ≤ 122 ∨ 65 ≤ c ∧ c ≤ 90 ∨ c = 95) : letterB c b = true := by unfold letterB; rw [decide_eq_true h]; rfl
theorem letter_digit {c : Int} {b : Bool} (h : 48 ≤ c ∧ c ≤ 57) : letterB c b = !b := by
  unfold letterB; rw [decide_eq_true h, decide_eq_false (show ¬ (97 ≤ c ∧ c ≤ 122 ∨ 65 ≤ c ∧ c ≤ 90 ∨ c = 95) by omega)]; rfl
theorem letter_no {c : Int} {b : Bool} (h : ¬ (97 ≤ c ∧ c ≤ 122 ∨ 65 ≤ c ∧ c ≤ 90 ∨ c = 95)) (h2 : ¬ (48 ≤ c ∧ c ≤ 57)) : letterB c b = false := by
  unfold letterB; rw [decide_eq_false h, decide_eq_false h2]; rfl
theorem all_range {n : Nat} {p : Nat → Bool} (h : ∀ i, i < n → p i = true) : (List.range n).all p = true := by
  rw [List.all_eq_true]
  intro i hi
  exact h i (List.mem_range.1 hi)
theorem all_range_false {n i : Nat} {p : Nat → Bool} (hi : i < n) (h : p i = false) : (List.range n).all p = false := by
  rw [List.all_eq_false]
  exact ⟨i, List.mem_range.2 hi, by simp [h]⟩
theorem bt0_pos {s : ByteArray} (h : ¬ s = ⟨#[]⟩) : 0 < s.data.toList.length := by
  rcases Nat.eq_zero_or_pos s.data.toList.length with e | e
  · exfalso; apply h; apply ByteArray.ext; apply Array.ext'
    exact List.eq_nil_of_length_eq_zero e
  · exact e

/-- Whether the label at a place may stand there. -/
def okAt (ls : List Lab) (i : Nat) : Bool :=
  mayNameB (ls.getD i (⟨#[]⟩, ⟨#[]⟩)).1 && mayValueB (ls.getD i (⟨#[]⟩, ⟨#[]⟩)).2 &&
    (decide (i = 0) || !(lessS (ls.getD i (⟨#[]⟩, ⟨#[]⟩)).1 (ls.getD (i - 1) (⟨#[]⟩, ⟨#[]⟩)).1 || eqS (ls.getD i (⟨#[]⟩, ⟨#[]⟩)).1 (ls.getD (i - 1) (⟨#[]⟩, ⟨#[]⟩)).1))
def mayB (ls : List Lab) : Bool := decide (1 ≤ ls.length ∧ ls.length ≤ 16) && (List.range ls.length).all (okAt ls)
theorem getD_of {α : Type} {ls : List α} {i : Nat} {x d : α} (h : ls[i]? = some x) : ls.getD i d = x := by rw [List.getD_eq_getElem?_getD, h]; rfl

theorem okAt_of {ls : List Lab} {i : Nat} {x y : Lab} (hx : ls[i]? = some x) (hy : i ≠ 0 → ls[i - 1]? = some y) : okAt ls i = (mayNameB x.1 && mayValueB x.2 && (decide (i = 0) || !(lessS x.1 y.1 || eqS x.1 y.1))) := by
  unfold okAt
  rw [getD_of hx]
  by_cases h : i = 0
  · rw [decide_eq_true h, Bool.true_or, Bool.true_or]
  · rw [getD_of (hy h)]
theorem may_bad {ls : List Lab} {i : Nat} {x : Lab} (hx : ls[i]? = some x) (hb : mayNameB x.1 = false ∨ mayValueB x.2 = false) : mayB ls = false := by
  have hlt := (List.getElem?_eq_some_iff.1 hx).1
  unfold mayB
  rw [all_range_false hlt, Bool.and_false]
  unfold okAt
  rw [getD_of hx]
  rcases hb with h | h <;> rw [h] <;> simp
theorem may_row {ls : List Lab} {i : Nat} {x y : Lab} (hx : ls[i]? = some x) (h0 : i ≠ 0) (hy : ls[i - 1]? = some y) (hb : (lessS x.1 y.1 || eqS x.1 y.1) = true) : mayB ls = false := by
  have hlt := (List.getElem?_eq_some_iff.1 hx).1
  unfold mayB
  rw [all_range_false hlt, Bool.and_false]
  rw [okAt_of hx (fun _ => hy), hb, decide_eq_false h0]
  simp
theorem may_all {ls : List Lab} (h : ∀ i, i < ls.length → okAt ls i = true) : mayB ls = decide (1 ≤ ls.length ∧ ls.length ≤ 16) := by
  unfold mayB
  rw [all_range h, Bool.and_true]
theorem may_len {ls : List Lab} (h : ¬ (1 ≤ ls.length ∧ ls.length ≤ 16)) : mayB ls = false := by
  unfold mayB
  rw [decide_eq_false h]
  rfl
theorem okAt_yes {ls : List Lab} {i : Nat} {x : Lab} (hx : ls[i]? = some x) (h1 : mayNameB x.1 = true) (h2 : mayValueB x.2 = true) (h3 : i = 0 ∨ ∃ y, ls[i - 1]? = some y ∧ (lessS x.1 y.1 || eqS x.1 y.1) = false) : okAt ls i = true := by
  rcases h3 with h | ⟨y, hy, h⟩
  · rw [okAt_of (y := x) hx (fun q => (q h).elim), h1, h2, decide_eq_true h]; rfl
  · rw [okAt_of hx (fun _ => hy), h1, h2, h]; simp

/-- A rune, by the document's words: 0 bytes where there is none. -/
def runeD (s : ByteArray) : Nat × Nat := if s.data.toList = [] ∨ Lib.decodeL s.data.toList = (65533, 1) then (0, 0) else Lib.decodeL s.data.toList

/-- How a rune's number grows. -/
def runeC (s : ByteArray) (c : Int) : Nat → Int
  | 0 => c
  | i + 1 => runeC s c i * 64 + bt s ((i : Int) + 1) - 128
end Go.Proofs.YtkpjfibpaojelaaGreatDoor
