/- Texts in their row; labels without a name may be, if labels may be. -/
import Derived.Test.YtkpjfibpaojelaaGreatDoorLabF
namespace Go.Proofs.YtkpjfibpaojelaaGreatDoor
open Go Go.Abs
set_option maxRecDepth 100000

theorem bless_irrefl : ∀ a : List UInt8, Op.bytesLess a a = false
  | [] => rfl
  | x :: a => by simp [Op.bytesLess, bless_irrefl a]
theorem bless_trans : ∀ a b c : List UInt8, Op.bytesLess a b = true → Op.bytesLess b c = true → Op.bytesLess a c = true
  | _, _, [], _, h => by rename_i b _; cases b <;> simp [Op.bytesLess] at h
  | _, [], _ :: _, h, _ => by rename_i a _ _ _; cases a <;> simp [Op.bytesLess] at h
  | [], _ :: _, _ :: _, _, _ => by simp [Op.bytesLess]
  | x :: a, y :: b, z :: c, h, k => by
    simp only [Op.bytesLess, Bool.or_eq_true, Bool.and_eq_true, decide_eq_true_eq, beq_iff_eq] at *
    rcases h with h | ⟨rfl, h⟩
    · rcases k with k | ⟨rfl, k⟩
      · exact .inl (UInt8.lt_trans h k)
      · exact .inl h
    · rcases k with k | ⟨rfl, k⟩
      · exact .inl k
      · exact .inr ⟨rfl, bless_trans a b c h k⟩
theorem bless_tri : ∀ a b : List UInt8, Op.bytesLess a b = false → a ≠ b → Op.bytesLess b a = true
  | [], [], _, h => (h rfl).elim
  | [], _ :: _, h, _ => by simp [Op.bytesLess] at h
  | _ :: _, [], _, _ => by simp [Op.bytesLess]
  | x :: a, y :: b, h, k => by
    simp only [Op.bytesLess, Bool.or_eq_false_iff, Bool.and_eq_false_iff, decide_eq_false_iff_not, beq_eq_false_iff_ne, Bool.or_eq_true, Bool.and_eq_true, decide_eq_true_eq, beq_iff_eq] at *
    obtain ⟨h1, h2⟩ := h
    by_cases e : x = y
    · subst e
      rcases h2 with h2 | h2
      · exact (h2 rfl).elim
      · exact .inr ⟨rfl, bless_tri a b h2 (fun e => k (by rw [e]))⟩
    · left
      rw [UInt8.lt_iff_toNat_lt] at *
      have : x.toNat ≠ y.toNat := fun q => e (UInt8.toNat_inj.1 q)
      omega

/-- One text stands ahead of another one. -/
def ltN (a b : ByteArray) : Prop := lessS a b = true
theorem ltN_trans {a b c : ByteArray} (h : ltN a b) (k : ltN b c) : ltN a c := bless_trans _ _ _ h k
theorem ltN_of {x y : ByteArray} (h : (lessS x y || eqS x y) = false) : ltN y x := by
  rw [Bool.or_eq_false_iff] at h
  refine bless_tri _ _ h.1 (fun e => ?_)
  have : eqS x y = true := by unfold eqS; rw [e]; simp
  rw [h.2] at this
  cases this
theorem ltN_not {x y : ByteArray} (h : ltN y x) : (lessS x y || eqS x y) = false := by
  rw [Bool.or_eq_false_iff]
  constructor
  · cases e : lessS x y with
    | false => rfl
    | true =>
      have := bless_trans _ _ _ e h
      rw [bless_irrefl] at this
      cases this
  · cases e : eqS x y with
    | false => rfl
    | true =>
      rw [eqS_of] at e
      subst e
      have h' : Op.bytesLess x.data.toList x.data.toList = true := h
      rw [bless_irrefl] at h'
      cases h'

theorem all_range_iff {n : Nat} {p : Nat → Bool} : (List.range n).all p = true ↔ ∀ i, i < n → p i = true := by
  rw [List.all_eq_true]
  exact ⟨fun h i hi => h i (List.mem_range.2 hi), fun h i hi => h i (List.mem_range.1 hi)⟩

/-- Labels that may be: each name and value may be, and the names rise. -/
theorem may_iff {ls : List Lab} : mayB ls = true ↔ (1 ≤ ls.length ∧ ls.length ≤ 16) ∧ (∀ x ∈ ls, mayNameB x.1 = true ∧ mayValueB x.2 = true) ∧ ls.Pairwise fun x y => ltN x.1 y.1 := by
  unfold mayB
  rw [Bool.and_eq_true, decide_eq_true_eq, all_range_iff]
  have key : (∀ i, i < ls.length → okAt ls i = true) ↔ (∀ x ∈ ls, mayNameB x.1 = true ∧ mayValueB x.2 = true) ∧ ls.Pairwise fun x y => ltN x.1 y.1 := by
    constructor
    · intro h
      have step : ∀ i (hi : i + 1 < ls.length), ltN ls[i].1 ls[i + 1].1 := by
        intro i hi
        have h1 := h (i + 1) hi
        rw [okAt_of (y := ls[i]) (List.getElem?_eq_getElem hi) (fun _ => by rw [Nat.add_sub_cancel]; exact List.getElem?_eq_getElem (by omega))] at h1
        simp only [Bool.and_eq_true, Bool.or_eq_true, decide_eq_true_eq, Bool.not_eq_true'] at h1
        rcases h1.2 with e | e
        · omega
        · exact ltN_of e
      refine ⟨fun x hx => ?_, ?_⟩
      · obtain ⟨i, hi⟩ := List.getElem?_of_mem hx
        have h1 := h i (List.getElem?_eq_some_iff.1 hi).1
        unfold okAt at h1
        rw [getD_of hi] at h1
        simp only [Bool.and_eq_true] at h1
        exact h1.1
      · rw [List.pairwise_iff_getElem]
        intro i j hi hj hij
        have key : ∀ d i (hi : i + d + 1 < ls.length), ltN ls[i].1 ls[i + d + 1].1 := by
          intro d
          induction d with
          | zero => intro i hi; exact step i hi
          | succ d ih => intro i hi; exact ltN_trans (ih i (by omega)) (step (i + d + 1) hi)
        have e : j = i + (j - i - 1) + 1 := by omega
        have := key (j - i - 1) i (by omega)
        simp only [← e] at this
        exact this
    · rintro ⟨h1, h2⟩ i hi
      have hx : ls[i]? = some ls[i] := List.getElem?_eq_getElem hi
      have hm := h1 _ (List.mem_of_getElem? hx)
      by_cases h0 : i = 0
      · exact okAt_yes hx hm.1 hm.2 (.inl h0)
      · refine okAt_yes hx hm.1 hm.2 (.inr ⟨ls[i - 1], List.getElem?_eq_getElem (by omega), ltN_not ?_⟩)
        rw [List.pairwise_iff_getElem] at h2
        exact h2 (i - 1) i (by omega) hi (by omega)
  rw [key]

/-- Labels without those of a name. -/
theorem may_wo {ls : List Lab} {name : ByteArray} (h : mayB ls = true) (hne : (woN name ls).length ≠ 0) : mayB (woN name ls) = true := by
  rw [may_iff] at *
  obtain ⟨h1, h2, h3⟩ := h
  have hle : (woN name ls).length ≤ ls.length := List.length_filter_le _ _
  exact ⟨⟨by omega, by omega⟩, fun x hx => h2 x (List.mem_filter.1 hx).1, h3.filter _⟩
theorem wo_idem (ls : List Lab) (name : ByteArray) : woN name (woN name ls) = woN name ls := by
  unfold woN; rw [List.filter_filter]; simp
theorem wo_get2 (ls : List Lab) (name : ByteArray) : getV2 (woN name ls) name = false := by
  unfold getV2 woN
  rw [List.any_eq_false]
  intro x hx
  have := (List.mem_filter.1 hx).2
  simpa using this
theorem wo_at {ls : List Lab} {i : Nat} {x : Lab} {name : ByteArray} (hx : ls[i]? = some x) (h : ¬ x.1 = name) : (woN name ls)[(woN name (ls.take i)).length]? = some x := by
  have e : woN name ls = woN name (ls.take (i + 1)) ++ woN name (ls.drop (i + 1)) := by
    unfold woN
    rw [← List.filter_append, List.take_append_drop]
  rw [e, wo_step hx, if_neg h]
  simp
theorem get2_step {ls : List Lab} {i : Nat} {x : Lab} {name : ByteArray} (hx : ls[i]? = some x) : getV2 (ls.take (i + 1)) name = (getV2 (ls.take i) name || decide (x.1 = name)) := by
  obtain ⟨hlt, he⟩ := List.getElem?_eq_some_iff.1 hx
  unfold getV2
  rw [List.take_succ_eq_append_getElem hlt, he, List.any_append]
  simp
theorem get2_mem {ls : List Lab} {i : Nat} {x : Lab} {name : ByteArray} (hx : ls[i]? = some x) (h : x.1 = name) : getV2 ls name = true := by
  unfold getV2
  rw [List.any_eq_true]
  exact ⟨x, List.mem_of_getElem? hx, decide_eq_true h⟩
theorem get1_first {ls : List Lab} {i : Nat} {x : Lab} {name : ByteArray} (hx : ls[i]? = some x) (h : x.1 = name) (hb : getV2 (ls.take i) name = false) : getV1 ls name = x.2 := by
  obtain ⟨hlt, he⟩ := List.getElem?_eq_some_iff.1 hx
  have e1 : ls.find? (fun x => decide (x.1 = name)) = some x := by
    rw [List.find?_eq_some_iff_getElem]
    refine ⟨decide_eq_true h, i, hlt, he, fun j hj => ?_⟩
    unfold getV2 at hb
    rw [List.any_eq_false] at hb
    have hjl : j < ls.length := by omega
    have hm : ls[j] ∈ ls.take i := List.mem_of_getElem? (i := j) (by rw [List.getElem?_take, if_pos hj]; exact List.getElem?_eq_getElem hjl)
    have := hb _ hm
    simpa using this
  unfold getV1
  rw [e1]
end Go.Proofs.YtkpjfibpaojelaaGreatDoor
