/- Runes of a text: what a text's bytes decode to, step by step. -/
import Derived.Test.YtkpjfibpaojelaaDoorAbsE
import Derived.Lib.ValidLaws
import Derived.Lib.TrimUEq
namespace Go.Abs
open Go

/-- What a text's bytes decode to: rune and width, one by one. -/
def decsF : Nat → List UInt8 → List (Nat × Nat)
  | 0, _ => []
  | f + 1, l => if l = [] then [] else Lib.decodeL l :: decsF f (l.drop (Lib.decodeL l).2)
def decs (l : List UInt8) : List (Nat × Nat) := decsF l.length l

theorem decsF_fuel : ∀ (n m : Nat) (l : List UInt8), l.length ≤ n → l.length ≤ m → decsF n l = decsF m l
  | 0, m, l, hn, _ => by
    have : l = [] := List.eq_nil_of_length_eq_zero (by omega)
    subst this
    cases m <;> simp [decsF]
  | n + 1, 0, l, _, hm => by
    have : l = [] := List.eq_nil_of_length_eq_zero (by omega)
    subst this
    simp [decsF]
  | n + 1, m + 1, l, hn, hm => by
    unfold decsF
    by_cases hne : l = []
    · simp [hne]
    · have hw := Lib.decodeL_width l
      have hl : 0 < l.length := List.length_pos_iff.2 hne
      rw [if_neg hne, if_neg hne, decsF_fuel n m _ (by rw [List.length_drop]; omega) (by rw [List.length_drop]; omega)]

theorem decs_nil : decs [] = [] := rfl
theorem decs_step (l : List UInt8) (hne : l ≠ []) : decs l = Lib.decodeL l :: decs (l.drop (Lib.decodeL l).2) := by
  have hl : 0 < l.length := List.length_pos_iff.2 hne
  have hw := Lib.decodeL_width l
  obtain ⟨n, hn⟩ : ∃ n, l.length = n + 1 := ⟨l.length - 1, by omega⟩
  unfold decs
  rw [hn]
  show (if l = [] then [] else _) = _
  rw [if_neg hne, decsF_fuel n _ _ (by rw [List.length_drop]; omega) (Nat.le_refl _)]

theorem validD_decs : ∀ (n : Nat) (l : List UInt8), l.length ≤ n → Lib.validD l = (decs l).all fun d => d != (65533, 1)
  | 0, l, hn => by
    have : l = [] := List.eq_nil_of_length_eq_zero (by omega)
    subst this
    rfl
  | n + 1, l, hn => by
    by_cases hne : l = []
    · subst hne; rfl
    · have hl : 0 < l.length := List.length_pos_iff.2 hne
      have hw := Lib.decodeL_width l
      rw [Lib.validD_step l hne, decs_step l hne, List.all_cons, ← validD_decs n _ (by rw [List.length_drop]; omega)]
      generalize Lib.decodeL l = d
      obtain ⟨a, b⟩ := d
      by_cases h : a = 65533 ∧ b = 1
      · rw [if_pos h]; obtain ⟨rfl, rfl⟩ := h; rfl
      · rw [if_neg h]
        have : ((a, b) != (65533, 1)) = true := by
          simp only [bne_iff_ne, ne_eq, Prod.mk.injEq]; exact h
        rw [this]; rfl

/-- How far a step goes. -/
theorem decodeL_le (l : List UInt8) (hne : l ≠ []) : (Lib.decodeL l).2 ≤ l.length := by
  unfold Lib.decodeL
  have hl : 0 < l.length := List.length_pos_iff.2 hne
  rw [Lib.decode_N]
  simp only [Nat.sub_zero]
  generalize (l.getD 0 0).toNat = b0
  unfold Lib.decodeN
  repeat' split
  all_goals simp_all
  all_goals omega

theorem decode_step (s : ByteArray) (p : Nat) (hp : p < s.data.toList.length) :
    decs (s.data.toList.drop p) = Utf8.decode s p :: decs (s.data.toList.drop (p + (Utf8.decode s p).2)) ∧ p + (Utf8.decode s p).2 ≤ s.data.toList.length ∧ 1 ≤ (Utf8.decode s p).2 := by
  have hne : s.data.toList.drop p ≠ [] := by
    intro h
    have := congrArg List.length h
    rw [List.length_drop] at this
    simp only [List.length_nil] at this
    omega
  have h1 := decs_step _ hne
  have h2 := decodeL_le _ hne
  have h3 := Lib.decodeL_width (s.data.toList.drop p)
  rw [Lib.decodeL_drop, List.drop_drop] at h1
  rw [Lib.decodeL_drop, List.length_drop] at h2
  rw [Lib.decodeL_drop] at h3
  exact ⟨h1, by omega, by omega⟩

/-- A rune that may stand in a value. -/
def okD (d : Nat × Nat) : Bool := d != (65533, 1) && decide (32 ≤ d.1) && d.1 != 127
def mayValueL (l : List UInt8) : Bool := (decs l).all okD && decide (1 ≤ (decs l).length) && decide ((decs l).length ≤ 64)
def mayValueB (s : ByteArray) : Bool := mayValueL s.data.toList
/-- Between the two runs over a value: the runes that are looked at. -/
def okC (d : Nat × Nat) : Bool := decide (32 ≤ d.1) && d.1 != 127
theorem okD_eq (d : Nat × Nat) : okD d = (okC d && d != (65533, 1)) := by
  unfold okD okC
  cases decide (32 ≤ d.1) <;> cases (d.1 != 127) <;> cases (d != (65533, 1)) <;> rfl
theorem all_okD (l : List (Nat × Nat)) : l.all okD = (l.all okC && l.all fun d => d != (65533, 1)) := by
  induction l with
  | nil => rfl
  | cons d l ih => simp only [List.all_cons, ih, okD_eq]; cases okC d <;> cases (d != (65533, 1)) <;> cases l.all okC <;> rfl
theorem mv_long {l : List UInt8} {ds r : List (Nat × Nat)} {d : Nat × Nat} (h : decs l = ds ++ d :: r) (hl : 64 ≤ ds.length) : mayValueL l = false := by
  unfold mayValueL
  rw [show decide ((decs l).length ≤ 64) = false by rw [h]; simp; omega, Bool.and_false]
theorem mv_bad {l : List UInt8} {ds r : List (Nat × Nat)} {d : Nat × Nat} (h : decs l = ds ++ d :: r) (hd : okC d = false) : mayValueL l = false := by
  unfold mayValueL
  rw [all_okD, h, List.all_append, List.all_cons, hd]
  simp
theorem mv_end {l : List UInt8} {ds : List (Nat × Nat)} (h : decs l = ds) (ho : ds.all okC = true) (hl : ds.length ≤ 64) : mayValueL l = (decide (0 < ds.length) && Lib.validD l) := by
  unfold mayValueL
  rw [all_okD, h, ho, validD_decs _ _ (Nat.le_refl _), h, Bool.true_and, decide_eq_true hl, Bool.and_true, Bool.and_comm]
  rfl
end Go.Abs
