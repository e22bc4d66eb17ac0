/- Texts put together, and cut: which runes they have. -/
import Derived.Test.YtkpjfibpaojelaaDoorRunes
namespace Go.Abs
open Go

theorem decodeN_ok {n b0 b1 b2 b3 c w : Nat} (hn : 1 ≤ n) (h : Lib.decodeN n b0 b1 b2 b3 = (c, w)) (hb : ¬ (c = 65533 ∧ w = 1)) :
    (w ≤ n ∧ 1 ≤ w ∧ w ≤ 4) ∧ b0 / 64 ≠ 2 ∧ (1 < w → b1 / 64 = 2) ∧ (2 < w → b2 / 64 = 2) ∧ (3 < w → b3 / 64 = 2) ∧
      (∀ n' b1' b2' b3', w ≤ n' → (1 < w → b1' = b1) → (2 < w → b2' = b2) → (3 < w → b3' = b3) → Lib.decodeN n' b0 b1' b2' b3' = (c, w)) ∧
      (∀ n' b1' b2' b3', 1 ≤ n' → n' < w → Lib.decodeN n' b0 b1' b2' b3' = (65533, 1)) := by
  unfold Lib.decodeN at h
  split at h
  · rename_i h0
    cases h
    refine ⟨by omega, by omega, by omega, by omega, by omega, fun n' b1' b2' b3' _ _ _ _ => ?_, fun n' _ _ _ h1 h2 => by omega⟩
    unfold Lib.decodeN
    rw [if_pos h0]
  · rename_i h0
    split at h
    · rename_i h1
      split at h
      · rename_i h2
        cases h
        refine ⟨by omega, by omega, by omega, by omega, by omega, fun n' b1' b2' b3' q1 q2 q3 q4 => ?_, fun n' b1' b2' b3' q1 q2 => ?_⟩
        · obtain rfl := q2 (by omega)
          unfold Lib.decodeN
          rw [if_neg h0, if_pos (by omega), if_pos h2]
        · unfold Lib.decodeN
          rw [if_neg h0, if_neg (by omega), if_neg (by omega), if_neg (by omega)]
      · cases h; exact (hb ⟨rfl, rfl⟩).elim
    · rename_i h1
      split at h
      · rename_i h2
        split at h
        · rename_i h3
          cases h
          refine ⟨by omega, by omega, by omega, by omega, by omega, fun n' b1' b2' b3' q1 q2 q3 q4 => ?_, fun n' b1' b2' b3' q1 q2 => ?_⟩
          · obtain rfl := q2 (by omega)
            obtain rfl := q3 (by omega)
            unfold Lib.decodeN
            rw [if_neg h0, if_neg (by omega), if_pos (by omega), if_pos h3]
          · unfold Lib.decodeN
            rw [if_neg h0, if_neg (by omega), if_neg (by omega), if_neg (by omega)]
        · cases h; exact (hb ⟨rfl, rfl⟩).elim
      · rename_i h2
        split at h
        · rename_i h3
          split at h
          · rename_i h4
            cases h
            refine ⟨by omega, by omega, by omega, by omega, by omega, fun n' b1' b2' b3' q1 q2 q3 q4 => ?_, fun n' b1' b2' b3' q1 q2 => ?_⟩
            · obtain rfl := q2 (by omega)
              obtain rfl := q3 (by omega)
              obtain rfl := q4 (by omega)
              unfold Lib.decodeN
              rw [if_neg h0, if_neg (by omega), if_neg (by omega), if_pos (by omega), if_pos h4]
            · unfold Lib.decodeN
              rw [if_neg h0, if_neg (by omega), if_neg (by omega), if_neg (by omega)]
          · cases h; exact (hb ⟨rfl, rfl⟩).elim
        · cases h; exact (hb ⟨rfl, rfl⟩).elim

theorem decodeL_N (l : List UInt8) : Lib.decodeL l = Lib.decodeN l.length (l.getD 0 0).toNat (l.getD 1 0).toNat (l.getD 2 0).toNat (l.getD 3 0).toNat := by
  unfold Lib.decodeL
  rw [Lib.decode_N]
  simp

/-- A byte that goes on with a rune. -/
def contB (b : UInt8) : Bool := decide (b.toNat / 64 = 2)

theorem decodeL_cont {l : List UInt8} (h : contB (l.getD 0 0) = true) : Lib.decodeL l = (65533, 1) := by
  unfold contB at h
  rw [decide_eq_true_eq] at h
  rw [decodeL_N]
  unfold Lib.decodeN
  rw [if_neg (by omega), if_neg (by omega), if_neg (by omega), if_neg (by omega)]

theorem decodeL_ok {l : List UInt8} {c w : Nat} (hl : l ≠ []) (h : Lib.decodeL l = (c, w)) (hb : (c, w) ≠ (65533, 1)) :
    (w ≤ l.length ∧ 1 ≤ w) ∧ contB (l.getD 0 0) = false ∧ (∀ j, 1 ≤ j → j < w → contB (l.getD j 0) = true) ∧
      (∀ m : List UInt8, w ≤ m.length → (∀ j, j < w → m.getD j 0 = l.getD j 0) → Lib.decodeL m = (c, w)) ∧
      (∀ k, 1 ≤ k → k < w → Lib.decodeL (l.take k) = (65533, 1)) := by
  have hn : 1 ≤ l.length := List.length_pos_iff.2 hl
  rw [decodeL_N] at h
  have hb' : ¬ (c = 65533 ∧ w = 1) := by rintro ⟨rfl, rfl⟩; exact hb rfl
  obtain ⟨h1, h2, h3, h4, h5, h6, h7⟩ := decodeN_ok hn h hb'
  refine ⟨⟨h1.1, h1.2.1⟩, by unfold contB; rw [decide_eq_false_iff_not]; exact h2, ?_, ?_, ?_⟩
  · intro j j1 j2
    unfold contB
    rw [decide_eq_true_eq]
    match j, j1 with
    | 1, _ => exact h3 (by omega)
    | 2, _ => exact h4 (by omega)
    | 3, _ => exact h5 (by omega)
    | j + 4, _ => omega
  · intro m hm hj
    rw [decodeL_N, hj 0 (by omega)]
    exact h6 _ _ _ _ hm (fun q => by rw [hj 1 q]) (fun q => by rw [hj 2 q]) (fun q => by rw [hj 3 q])
  · intro k k1 k2
    rw [decodeL_N]
    have e : (l.take k).getD 0 0 = l.getD 0 0 := by
      rw [List.getD_eq_getElem?_getD, List.getD_eq_getElem?_getD, List.getElem?_take, if_pos (by omega)]
    rw [e]
    have e2 : (l.take k).length = k := by rw [List.length_take]; omega
    rw [e2]
    exact h7 _ _ _ _ k1 k2

def goodD (d : Nat × Nat) : Bool := d != (65533, 1)

theorem decs_ok (P : List UInt8 → Prop) (h0 : P []) (hs : ∀ l c w, l ≠ [] → Lib.decodeL l = (c, w) → (c, w) ≠ (65533, 1) → decs l = (c, w) :: decs (l.drop w) → (decs (l.drop w)).all goodD = true → P (l.drop w) → P l) :
    ∀ l, (decs l).all goodD = true → P l := by
  have key : ∀ n, ∀ l : List UInt8, l.length ≤ n → (decs l).all goodD = true → P l := by
    intro n
    induction n with
    | zero => intro l hl _; have := List.eq_nil_of_length_eq_zero (Nat.le_zero.1 hl); subst this; exact h0
    | succ n ih =>
      intro l hl ha
      by_cases hne : l = []
      · rw [hne]; exact h0
      · have e := decs_step l hne
        rw [e, List.all_cons, Bool.and_eq_true] at ha
        obtain ⟨c, hd⟩ : ∃ c, Lib.decodeL l = c := ⟨_, rfl⟩
        have hw1 := Lib.decodeL_width l
        have hlp : 0 < l.length := List.length_pos_iff.2 hne
        refine hs l c.1 c.2 hne hd ?_ (by rw [e, hd]) (by rw [← hd]; exact ha.2) ?_
        · have := ha.1
          rw [hd] at this
          unfold goodD at this
          exact bne_iff_ne.1 this
        · rw [← hd]
          exact ih _ (by rw [List.length_drop]; omega) ha.2
  exact fun l => key l.length l (Nat.le_refl _)

theorem getD_append_left' {l m : List UInt8} {j : Nat} (h : j < l.length) : (l ++ m).getD j 0 = l.getD j 0 := by
  rw [List.getD_eq_getElem?_getD, List.getD_eq_getElem?_getD, List.getElem?_append_left h]

/-- Texts put together: the first one's runes stay. -/
theorem decs_append (m : List UInt8) : ∀ l : List UInt8, (decs l).all goodD = true → decs (l ++ m) = decs l ++ decs m := by
  refine decs_ok (fun l => decs (l ++ m) = decs l ++ decs m) rfl ?_
  intro l c w hl hd hb he _ ih
  obtain ⟨h1, _, _, h4, _⟩ := decodeL_ok hl hd hb
  have e1 : Lib.decodeL (l ++ m) = (c, w) := h4 _ (by rw [List.length_append]; omega) fun j hj => getD_append_left' (by omega)
  have hne : l ++ m ≠ [] := by simp [hl]
  rw [decs_step _ hne, e1, List.drop_append_of_le_length h1.1, ih, he]
  rfl

/-- How many runes begin in a text. -/
def startsN (l : List UInt8) : Nat := l.countP fun b => !contB b

theorem starts_decs : ∀ l : List UInt8, (decs l).all goodD = true → startsN l = (decs l).length := by
  refine decs_ok (fun l => startsN l = (decs l).length) rfl ?_
  intro l c w hl hd hb he _ ih
  obtain ⟨h1, h2, h3, _, _⟩ := decodeL_ok hl hd hb
  rw [he, List.length_cons, ← ih]
  unfold startsN
  conv => lhs; rw [← List.take_append_drop w l, List.countP_append]
  have : (l.take w).countP (fun b => !contB b) = 1 := by
    cases l with
    | nil => exact (hl rfl).elim
    | cons x r =>
      obtain ⟨v, rfl⟩ : ∃ v, w = v + 1 := ⟨w - 1, by omega⟩
      rw [List.take_succ_cons, List.countP_cons_of_pos (by simpa using h2), List.countP_eq_zero.2]
      intro b hb
      obtain ⟨i, hi, rfl⟩ := List.getElem_of_mem hb
      rw [List.length_take] at hi
      have := h3 (i + 1) (by omega) (by omega)
      rw [List.getD_eq_getElem?_getD, List.getElem?_cons_succ, List.getElem?_eq_getElem (by omega)] at this
      rw [List.getElem_take]
      simp only [Option.getD_some] at this
      rw [this]
      decide
  omega

/-- A text that is cut: between runes each part has its runes; within one neither part may be. -/
theorem decs_cut : ∀ l : List UInt8, (decs l).all goodD = true → ∀ k, k < l.length →
    (contB (l.getD k 0) = false → decs (l.take k) ++ decs (l.drop k) = decs l) ∧ (contB (l.getD k 0) = true → (decs (l.take k)).all goodD = false ∧ (decs (l.drop k)).all goodD = false) := by
  refine decs_ok (fun l => ∀ k, k < l.length → (contB (l.getD k 0) = false → decs (l.take k) ++ decs (l.drop k) = decs l) ∧ (contB (l.getD k 0) = true → (decs (l.take k)).all goodD = false ∧ (decs (l.drop k)).all goodD = false)) ?_ ?_
  · intro k hk; simp at hk
  · intro l c w hl hd hb he _ ih k hk
    have ⟨h1, h2, h3, h4, h5⟩ := decodeL_ok hl hd hb
    rcases Nat.eq_zero_or_pos k with hk0 | hk0
    · subst hk0
      exact ⟨fun _ => by rw [List.take_zero, List.drop_zero]; rfl, fun q => by rw [h2] at q; cases q⟩
    · rcases Nat.lt_or_ge k w with hkw | hkw
      · have hc := h3 k hk0 hkw
        refine ⟨fun q => (by rw [hc] at q; cases q), fun _ => ⟨?_, ?_⟩⟩
        · have hne : l.take k ≠ [] := by
            intro e
            have := congrArg List.length e
            rw [List.length_take] at this
            simp only [List.length_nil] at this
            omega
          rw [decs_step _ hne, h5 k hk0 hkw]
          rfl
        · have hne : l.drop k ≠ [] := by
            intro e
            have := congrArg List.length e
            rw [List.length_drop] at this
            simp only [List.length_nil] at this
            omega
          rw [decs_step _ hne, decodeL_cont (l := l.drop k)]
          · rfl
          · rw [List.getD_eq_getElem?_getD, List.getElem?_drop, Nat.add_zero, ← List.getD_eq_getElem?_getD]; exact hc
      · have hi := ih (k - w) (by rw [List.length_drop]; omega)
        have e1 : (l.drop w).getD (k - w) 0 = l.getD k 0 := by
          rw [List.getD_eq_getElem?_getD, List.getElem?_drop, show w + (k - w) = k by omega, ← List.getD_eq_getElem?_getD]
        have e2 : (l.drop w).drop (k - w) = l.drop k := by rw [List.drop_drop, show w + (k - w) = k by omega]
        have e3 : decs (l.take k) = (c, w) :: decs ((l.drop w).take (k - w)) := by
          have hne : l.take k ≠ [] := by
            intro e
            have := congrArg List.length e
            rw [List.length_take] at this
            simp only [List.length_nil] at this
            omega
          have e4 : Lib.decodeL (l.take k) = (c, w) := h4 _ (by rw [List.length_take]; omega) fun j hj => by
            rw [List.getD_eq_getElem?_getD, List.getD_eq_getElem?_getD, List.getElem?_take, if_pos (by omega)]
          rw [decs_step _ hne, e4, List.drop_take]
        rw [e1, e2] at hi
        refine ⟨fun q => by rw [e3, List.cons_append, hi.1 q, he], fun q => ⟨?_, (hi.2 q).2⟩⟩
        rw [e3, List.all_cons, (hi.2 q).1, Bool.and_false]

theorem okD_good (d : Nat × Nat) (h : okD d = true) : goodD d = true := by
  unfold okD at h
  unfold goodD
  simp only [Bool.and_eq_true] at h
  exact h.1.1
theorem all_good {l : List (Nat × Nat)} (h : l.all okD = true) : l.all goodD = true := by
  rw [List.all_eq_true] at *
  exact fun x hx => okD_good x (h x hx)
theorem not_good {l : List (Nat × Nat)} (h : l.all goodD = false) : l.all okD = false := by
  cases e : l.all okD with
  | false => rfl
  | true => rw [all_good e] at h; cases h
theorem mayV {l : List UInt8} (h : mayValueL l = true) : (decs l).all okD = true ∧ 1 ≤ (decs l).length ∧ (decs l).length ≤ 64 := by
  unfold mayValueL at h
  simp only [Bool.and_eq_true, decide_eq_true_eq] at h
  exact ⟨h.1.1, h.1.2, h.2⟩
theorem mayV_not {l : List UInt8} (h : (decs l).all okD = false) : mayValueL l = false := by unfold mayValueL; rw [h]; rfl
theorem decs_pos {l : List UInt8} (h : l ≠ []) : 1 ≤ (decs l).length := by rw [decs_step _ h, List.length_cons]; omega

/-- Two values put together. -/
theorem mayV_append {a b : List UInt8} (ha : mayValueL a = true) (hb : mayValueL b = true) : mayValueL (a ++ b) = decide (startsN a + startsN b ≤ 64) := by
  obtain ⟨a1, a2, a3⟩ := mayV ha
  obtain ⟨b1, b2, b3⟩ := mayV hb
  unfold mayValueL
  rw [decs_append b a (all_good a1), List.all_append, a1, b1, List.length_append, starts_decs a (all_good a1), starts_decs b (all_good b1), decide_eq_true (show 1 ≤ (decs a).length + (decs b).length by omega)]
  rfl
/-- A value that is cut. -/
theorem mayV_take {a : List UInt8} (ha : mayValueL a = true) {k : Nat} (hk : k < a.length) : mayValueL (a.take k) = (decide (0 < k) && !contB (a.getD k 0)) := by
  obtain ⟨a1, a2, a3⟩ := mayV ha
  obtain ⟨c1, c2⟩ := decs_cut a (all_good a1) k hk
  cases e : contB (a.getD k 0) with
  | true => rw [mayV_not (not_good (c2 e).1)]; simp
  | false =>
    have := c1 e
    rw [← this, List.all_append, Bool.and_eq_true] at a1
    rw [← this, List.length_append] at a3
    unfold mayValueL
    rw [a1.1, decide_eq_true (show (decs (a.take k)).length ≤ 64 by omega)]
    by_cases h0 : 0 < k
    · rw [decide_eq_true h0, decide_eq_true]
      · rfl
      · refine decs_pos fun e => ?_
        have := congrArg List.length e
        rw [List.length_take] at this
        simp only [List.length_nil] at this
        omega
    · obtain rfl : k = 0 := by omega
      rfl
theorem mayV_drop {a : List UInt8} (ha : mayValueL a = true) {k : Nat} (hk : k < a.length) : mayValueL (a.drop k) = !contB (a.getD k 0) := by
  obtain ⟨a1, a2, a3⟩ := mayV ha
  obtain ⟨c1, c2⟩ := decs_cut a (all_good a1) k hk
  cases e : contB (a.getD k 0) with
  | true => rw [mayV_not (not_good (c2 e).2)]; rfl
  | false =>
    have := c1 e
    rw [← this, List.all_append, Bool.and_eq_true] at a1
    rw [← this, List.length_append] at a3
    unfold mayValueL
    rw [a1.2, decide_eq_true (show (decs (a.drop k)).length ≤ 64 by omega), decide_eq_true]
    · rfl
    · refine decs_pos fun e => ?_
      have := congrArg List.length e
      rw [List.length_drop] at this
      simp only [List.length_nil] at this
      omega
theorem mayV_128 {a : List UInt8} (ha : mayValueL a = true) : mayValueL (a ++ [128]) = false := by
  obtain ⟨a1, a2, a3⟩ := mayV ha
  refine mayV_not ?_
  rw [decs_append _ a (all_good a1), List.all_append, show (decs [128]).all okD = false by decide +kernel, Bool.and_false]
theorem mayV_nl (a : List UInt8) : mayValueL ([10] ++ a) = false := by
  refine mayV_not ?_
  rw [decs_append a [10] (by decide +kernel), List.all_append, show (decs [10]).all okD = false by decide +kernel, Bool.false_and]
theorem mayV_ne {a : List UInt8} (ha : mayValueL a = true) : 0 < a.length := by
  obtain ⟨a1, a2, a3⟩ := mayV ha
  refine List.length_pos_iff.2 fun e => ?_
  subst e
  simp [decs_nil] at a2
end Go.Abs
