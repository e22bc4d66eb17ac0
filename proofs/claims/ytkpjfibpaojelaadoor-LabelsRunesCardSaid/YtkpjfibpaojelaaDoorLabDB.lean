/- labels: how labels lie in memory; what may be a name, a value, labels. -/
import Derived.Test.YtkpjfibpaojelaaDoorRunes
import Derived.Test.YtkpjfibpaojelaaDoorLabD1
namespace Go.Proofs.YtkpjfibpaojelaaDoor
open Go Go.Abs
set_option maxRecDepth 100000
set_option maxHeartbeats 2000000

/-- The program's variables lie in a heap. -/
def Laid0 (h : Heap) : Prop := ∃ c, (laidHeap c laidL).sub h
theorem Laid0.keep {h h' : Heap} (l : Laid0 h) (s : SubBut h h' []) : Laid0 h' := let ⟨c, q⟩ := l; ⟨c, Heap.sub_trans q s.sub⟩
theorem Laid0.sub {h h' : Heap} (l : Laid0 h) (s : h.sub h') : Laid0 h' := let ⟨c, q⟩ := l; ⟨c, Heap.sub_trans q s⟩

theorem boolEql : ∀ x y : Bool, binE Tryd.prog .eql 4 false false (.bool x) (.bool y) = some (.bool (x == y)) := by
  intro x y; cases x <;> cases y <;> kernel_rfl
theorem boolNeq : ∀ x y : Bool, binE Tryd.prog .neq 4 false false (.bool x) (.bool y) = some (.bool (x != y)) := by
  intro x y; cases x <;> cases y <;> kernel_rfl
/-- Whether a byte may stand in a name. -/
def letterB (c : Int) (first : Bool) : Bool := decide (97 ≤ c ∧ c ≤ 122 ∨ 65 ≤ c ∧ c ≤ 90 ∨ c = 95) || (decide (48 ≤ c ∧ c ≤ 57) && !first)
def mayNameB (s : ByteArray) : Bool := decide (1 ≤ s.data.toList.length ∧ s.data.toList.length ≤ 64) && (List.range s.data.toList.length).all fun i => letterB (bt s (i : Nat)) (decide (i = 0))
theorem letterB_first {c : Int} (h : letterB c true = true) : ¬ (48 ≤ c ∧ c ≤ 57) := by
  simp only [letterB, Bool.not_true, Bool.and_false, Bool.or_false, decide_eq_true_eq] at h
  omega
theorem letter_yes {c : Int} {b : Bool} (h : 97 ≤ c ∧ c ≤ 122 ∨ 65 ≤ c ∧ c ≤ 90 ∨ c = 95) : letterB c b = true := by unfold letterB; rw [decide_eq_true h]; rfl
theorem letter_digit {c : Int} {b : Bool} (h : 48 ≤ c ∧ c ≤ 57) : letterB c b = !b := by
  unfold letterB; rw [decide_eq_true h, decide_eq_false (show ¬ (97 ≤ c ∧ c ≤ 122 ∨ 65 ≤ c ∧ c ≤ 90 ∨ c = 95) by omega)]; rfl
theorem letter_no {c : Int} {b : Bool} (h : ¬ (97 ≤ c ∧ c ≤ 122 ∨ 65 ≤ c ∧ c ≤ 90 ∨ c = 95)) (h2 : ¬ (48 ≤ c ∧ c ≤ 57)) : letterB c b = false := by
  unfold letterB; rw [decide_eq_false h, decide_eq_false h2]; rfl
theorem all_range {n : Nat} {p : Nat → Bool} (h : ∀ i, i < n → p i = true) : (List.range n).all p = true := by
  rw [List.all_eq_true]
  intro i hi
  exact h i (List.mem_range.1 hi)
theorem all_range_false {n i : Nat} {p : Nat → Bool} (hi : i < n) (h : p i = false) : (List.range n).all p = false := by
  rw [List.all_eq_false]
  exact ⟨i, List.mem_range.2 hi, by simp [h]⟩
theorem bt0_pos {s : ByteArray} (h : ¬ s = ⟨#[]⟩) : 0 < s.data.toList.length := by
  rcases Nat.eq_zero_or_pos s.data.toList.length with e | e
  · exfalso; apply h; apply ByteArray.ext; apply Array.ext'
    exact List.eq_nil_of_length_eq_zero e
  · exact e

end Go.Proofs.YtkpjfibpaojelaaDoor
