/- Rows of labels, stored into and cleared. -/
import Derived.Test.YtkpjfibpaojelaaGreatDoorLabRefW
namespace Go.Proofs.YtkpjfibpaojelaaGreatDoor
open Go Go.Abs
set_option maxRecDepth 100000
set_option maxHeartbeats 1000000

theorem setAll_get : ∀ (xs cs : List Value) (o i : Nat), o + xs.length ≤ cs.length → (setAll cs o xs)[i]? = if o ≤ i ∧ i < o + xs.length then xs[i - o]? else cs[i]? := get_setAll

/-- A row's beginning is these labels. -/
def Row (cs : List Value) (rs : List Lab) : Prop := cs.take (2 * rs.length) = labCells rs ∧ 2 * rs.length ≤ cs.length

theorem labCells_take (rs : List Lab) (k : Nat) : (labCells rs).take (2 * k) = labCells (rs.take k) := by
  induction rs generalizing k with
  | nil => simp [labCells]
  | cons x rs ih =>
    cases k with
    | zero => simp [labCells]
    | succ k =>
      have e : labCells (x :: rs) = .string x.1 :: .string x.2 :: labCells rs := rfl
      have e2 : labCells ((x :: rs).take (k + 1)) = .string x.1 :: .string x.2 :: labCells (rs.take k) := rfl
      rw [e, e2, show 2 * (k + 1) = 2 * k + 1 + 1 by omega, List.take_succ_cons, List.take_succ_cons, ih]

theorem Row.take {cs : List Value} {rs : List Lab} (h : Row cs rs) (k : Nat) (hk : k ≤ rs.length) : Row cs (rs.take k) := by
  refine ⟨?_, by rw [List.length_take]; have := h.2; omega⟩
  rw [← labCells_take, ← h.1, List.take_take, List.length_take]
  congr 1
  omega

theorem Row.at {cs : List Value} {rs : List Lab} (h : Row cs rs) {i : Nat} {x : Lab} (hx : rs[i]? = some x) : cs[2 * i]? = some (.string x.1) ∧ cs[2 * i + 1]? = some (.string x.2) := by
  have hlt := (List.getElem?_eq_some_iff.1 hx).1
  obtain ⟨e1, e2⟩ := labCells_get rs i x hx
  rw [← h.1, List.getElem?_take, if_pos (by omega)] at e1 e2
  exact ⟨e1, e2⟩

theorem Row.set {cs : List Value} {rs : List Lab} (h : Row cs rs) {k : Nat} (x : Lab) (hk : k < rs.length) : Row (setAll cs (2 * k) [.string x.1, .string x.2]) (rs.set k x) := by
  have hl := h.2
  refine ⟨?_, by rw [length_setAll, List.length_set]; exact hl⟩
  rw [List.length_set]
  apply List.ext_getElem?
  intro j
  rw [List.getElem?_take]
  have hlc : (labCells (rs.set k x)).length = 2 * rs.length := by rw [labCells_length, List.length_set]
  by_cases hj : j < 2 * rs.length
  · rw [if_pos hj, get_setAll _ _ _ _ (by simp; omega)]
    simp only [List.length_cons, List.length_nil]
    have hjd : j / 2 < rs.length := by omega
    by_cases hjk : j / 2 = k
    · rw [if_pos (by omega)]
      have hx : (rs.set k x)[k]? = some x := by rw [List.getElem?_set_self hk]
      obtain ⟨e1, e2⟩ := labCells_get _ _ _ hx
      by_cases h2 : j % 2 = 0
      · have ej : j = 2 * k := by omega
        subst ej
        rw [e1]; simp
      · have ej : j = 2 * k + 1 := by omega
        subst ej
        rw [e2]; simp
    · rw [if_neg (by omega)]
      have hx : (rs.set k x)[j / 2]? = some (rs[j / 2]) := by rw [List.getElem?_set_ne (Ne.symm hjk), List.getElem?_eq_getElem hjd]
      obtain ⟨e1, e2⟩ := labCells_get _ _ _ hx
      obtain ⟨f1, f2⟩ := h.at (List.getElem?_eq_getElem hjd)
      by_cases h2 : j % 2 = 0
      · have ej : j = 2 * (j / 2) := by omega
        rw [ej, e1, f1]
      · have ej : j = 2 * (j / 2) + 1 := by omega
        rw [ej, e2, f2]
  · rw [if_neg hj, List.getElem?_eq_none (by omega)]

theorem Row.tail {cs : List Value} {rs : List Lab} (h : Row cs rs) {k : Nat} (hk : k ≤ rs.length) (xs : List Value) (hx : 2 * k + xs.length ≤ cs.length) : Row (setAll cs (2 * k) xs) (rs.take k) := by
  have ht := h.take k hk
  have hkl : (rs.take k).length = k := by rw [List.length_take]; omega
  refine ⟨?_, by rw [length_setAll]; exact ht.2⟩
  rw [← ht.1, hkl]
  apply List.ext_getElem?
  intro j
  rw [List.getElem?_take, List.getElem?_take]
  by_cases hj : j < 2 * k
  · rw [if_pos hj, if_pos hj, get_setAll _ _ _ _ hx, if_neg (by omega)]
  · rw [if_neg hj, if_neg hj]

theorem Row.lab {h : Heap} {b cap : Nat} {cs : List Value} {own : Bool} {ci : CI} {rs : List Lab} (hr : Row cs rs) (hb : h.get b = some (.cells cs own ci)) : IsLab h (.slice (some ⟨b, 0, none⟩) rs.length cap) rs :=
  .row hb (by rw [List.drop_zero]; exact hr.1) (by have := hr.2; omega)

theorem slice_from {h : Heap} {b len : Nat} {cs : List Value} {k : Nat} (hb : h.get b = some (.cells cs true ⟨40, 2, false⟩)) (hk : k < len) (hlen : len < 1000000) :
    sliceE Tryz.prog 22 (.slice (some ⟨b, 0, none⟩) len U) (some (.int .i64 k)) none none h = some (.slice (some ⟨b, 0 + k * 2, none⟩) (len - k) U) := by
  obtain ⟨i, h40, h2, _⟩ := info40
  have hU : U = 18446744073709551616 := by decide
  have hbd : boundsE len len (some (.int .i64 k)) none none = some (k, len, none) := by
    simp only [boundsE, boundE]
    rw [if_pos (by omega)]
    simp
  simp only [sliceE, und22, h40, h2, hbd, hb]
  rw [if_neg (by omega), if_pos (by decide), if_pos (.inl hk), if_pos (.inl (by decide))]

theorem slice_to {h : Heap} {b len : Nat} {cs : List Value} {k : Nat} (hb : h.get b = some (.cells cs true ⟨40, 2, false⟩)) (hk : k ≤ len) (hlen : len < 1000000) :
    sliceE Tryz.prog 22 (.slice (some ⟨b, 0, none⟩) len U) none (some (.int .i64 k)) none h = some (.slice (some ⟨b, 0 + 0 * 2, none⟩) (k - 0) U) := by
  obtain ⟨i, h40, h2, _⟩ := info40
  have hU : U = 18446744073709551616 := by decide
  have hbd : boundsE len len none (some (.int .i64 k)) none = some (0, k, none) := by
    simp only [boundsE, boundE]
    rw [if_pos (by omega)]
    simp
  simp only [sliceE, und22, h40, h2, hbd, hb]
  rw [if_neg (by omega), if_pos (by decide), if_pos (.inr (by decide)), if_pos (.inl (by decide))]

theorem clear_tail {h : Heap} {n b k m : Nat} {cs : List Value} (hb : h.get b = some (.cells cs true ⟨40, 2, false⟩)) (hm : 0 < m) (hle : 2 * k + 2 * m ≤ cs.length) (cap : Nat) :
    ∃ xs : List Value, xs.length = 2 * m ∧ clearE Tryz.prog [22] [.slice (some ⟨b, 0 + k * 2, none⟩) m cap] h n = some (.val (.tuple #[]), h.set b (.cells (setAll cs (2 * k) xs) true ⟨40, 2, false⟩), n) := by
  have hz : ∀ y ∈ (Builtin.zeroCells (Value.agg #[.string ⟨#[]⟩, .string ⟨#[]⟩]).cells m).toList, y = .string ⟨#[]⟩ := by
    intro y hy
    simp only [Builtin.zeroCells, Value.cells, Array.toList_map, List.mem_map] at hy
    obtain ⟨i, _, rfl⟩ := hy
    have : i % 2 = 0 ∨ i % 2 = 1 := by omega
    rcases this with e | e <;> simp [e]
  have hlen : (Builtin.zeroCells (Value.agg #[.string ⟨#[]⟩, .string ⟨#[]⟩]).cells m).toList.length = 2 * m := by
    simp [Builtin.zeroCells, Value.cells]; omega
  refine ⟨_, hlen, ?_⟩
  obtain ⟨m, rfl⟩ : ∃ m', m = m' + 1 := ⟨m - 1, by omega⟩
  simp only [clearE, und22, zero40, hb]
  have ha : ((Builtin.zeroCells (Value.agg #[.string ⟨#[]⟩, .string ⟨#[]⟩]).cells (m + 1)).toList.all fun x => x.oneCell') = true := by
    rw [List.all_eq_true]; intro y hy; rw [hz y hy]; rfl
  have hfl : ((Builtin.zeroCells (Value.agg #[.string ⟨#[]⟩, .string ⟨#[]⟩]).cells (m + 1)).toList.all flat) = true := by
    rw [List.all_eq_true]; intro y hy; rw [hz y hy]; rfl
  rw [if_pos ⟨ha, hfl, by rw [hlen]; omega⟩, Nat.zero_add, Nat.mul_comm k 2]
end Go.Proofs.YtkpjfibpaojelaaGreatDoor
