/- Stepping through codes by hand: one rule for each kind of operation. -/
import Derived.Test.YtkpjfibpaojelaaGreatDoorAbs26
namespace Go.Abs
open Go

/-! Frames written out. -/
def evens : List Value → List Value
  | [] => []
  | [a] => [a]
  | a :: _ :: r => a :: evens r
def odds : List Value → List Value
  | [] => []
  | [_] => []
  | _ :: b :: r => b :: odds r

def mkT : Nat → List Value → Trie Value
  | 0, _ => .nil
  | _ + 1, [] => .nil
  | f + 1, a :: r => .node (some a) (mkT f (evens r)) (mkT f (odds r))

theorem evens_odds : ∀ (l : List Value) (i : Nat), (evens l)[i]? = l[2 * i]? ∧ (odds l)[i]? = l[2 * i + 1]?
  | [], i => by simp [evens, odds]
  | [a], i => by
    cases i with
    | zero => simp [evens, odds]
    | succ i => simp [evens, odds]
  | a :: b :: r, i => by
    obtain h := evens_odds r
    cases i with
    | zero => simp [evens, odds]
    | succ i =>
      rw [show 2 * (i + 1) = 2 * i + 1 + 1 by omega]
      simp only [evens, odds, List.getElem?_cons_succ]
      exact h i

theorem length_evens : ∀ l : List Value, (evens l).length ≤ l.length ∧ (odds l).length ≤ l.length
  | [] => by simp [evens, odds]
  | [a] => by simp [evens, odds]
  | a :: b :: r => by have := length_evens r; simp [evens, odds]; omega

theorem get_mkT : ∀ (f : Nat) (l : List Value) (i : Nat), l.length ≤ f → (mkT f l).get i = l[i]? := by
  intro f
  induction f with
  | zero => intro l i hl; have : l = [] := List.eq_nil_of_length_eq_zero (by omega); subst this; simp [mkT, Trie.get]
  | succ f ih =>
    intro l i hl
    cases l with
    | nil => simp [mkT, Trie.get]
    | cons a r =>
      simp only [mkT, Trie.get]
      simp only [List.length_cons] at hl
      have hle := length_evens r
      by_cases hi : i = 0
      · subst hi; simp
      · rw [if_neg hi]
        by_cases h2 : i % 2 = 1
        · rw [if_pos h2, ih _ _ (by omega), (evens_odds r _).1]
          obtain ⟨j, rfl⟩ : ∃ j, i = j + 1 := ⟨i - 1, by omega⟩
          rw [List.getElem?_cons_succ]
          congr 1; omega
        · rw [if_neg h2, ih _ _ (by omega), (evens_odds r _).2]
          obtain ⟨j, rfl⟩ : ∃ j, i = j + 1 := ⟨i - 1, by omega⟩
          rw [List.getElem?_cons_succ]
          congr 1; omega

def frameV (vs : List Value) : AAct := { t := mkT vs.length vs, size := vs.length, defers := [] }

def valsOf (fr : AAct) (k : Nat) : List Value := (List.range k).map fr.get

theorem VRel.of_undef {μ : Mu} {x : Value} (h : VRel μ x undef) : x = undef := by
  unfold undef at *
  cases h with
  | tuple hc _ => congr 1; exact Array.eq_empty_of_size_eq_zero (by simpa using hc)

theorem AWp.norm {P : Program} {Q : APost} {fr : AAct} {h : Heap} {n : Nat} {c : Code} {k : Nat} (hs : fr.size = k) (hd : fr.defers = []) (q : AWp P c Q (frameV (valsOf fr k)) h n) : AWp P c Q fr h n := by
  intro μ a w hf hr
  refine q μ a w (hf.eqv ⟨by simp [frameV, valsOf, hs], hd, fun i => ?_⟩) hr
  simp only [AAct.get, frameV]
  rw [get_mkT _ _ _ (Nat.le_refl _)]
  by_cases hi : i < k
  · simp [valsOf, hi, AAct.get]
  · have h1 := hf.get i
    rw [Array.getD_eq_getD_getElem?, Array.getElem?_eq_none (by rw [hf.size, hs]; omega)] at h1
    have h2 := h1.of_undef
    simp only [AAct.get] at h2
    rw [h2]
    simp [valsOf, hi]


theorem evens_set : ∀ (l : List Value) (j : Nat) (x : Value), (j % 2 = 0 → evens (l.set j x) = (evens l).set (j / 2) x ∧ odds (l.set j x) = odds l) ∧ (j % 2 = 1 → odds (l.set j x) = (odds l).set (j / 2) x ∧ evens (l.set j x) = evens l)
  | [], j, x => by simp [evens, odds]
  | [a], j, x => by
    cases j with
    | zero => simp [evens, odds]
    | succ j =>
      simp only [List.set_cons_succ, List.set_nil, evens, odds]
      refine ⟨fun h => ⟨?_, by simp⟩, fun h => ⟨by simp, by simp⟩⟩
      obtain ⟨k, hk⟩ : ∃ k, (j + 1) / 2 = k + 1 := ⟨(j + 1) / 2 - 1, by omega⟩
      rw [hk]; rfl
  | a :: b :: r, j, x => by
    match j with
    | 0 => simp [evens, odds]
    | 1 => simp [evens, odds]
    | j + 2 =>
      obtain ⟨h1, h2⟩ := evens_set r j x
      simp only [List.set_cons_succ, evens, odds]
      have e : (j + 2) / 2 = j / 2 + 1 := by omega
      rw [e]
      simp only [List.set_cons_succ]
      refine ⟨fun h => ?_, fun h => ?_⟩
      · obtain ⟨q1, q2⟩ := h1 (by omega); exact ⟨by rw [q1], by rw [q2]⟩
      · obtain ⟨q1, q2⟩ := h2 (by omega); exact ⟨by rw [q1], by rw [q2]⟩

theorem mkT_set : ∀ (f : Nat) (l : List Value) (i g : Nat) (x : Value), l.length ≤ f → i < l.length → i < g → Trie.setF (some x) g (mkT f l) i = mkT f (l.set i x) := by
  intro f
  induction f with
  | zero => intro l i g x hl hi; omega
  | succ f ih =>
    intro l i g x hl hi hg
    cases l with
    | nil => simp at hi
    | cons a r =>
      obtain ⟨g, rfl⟩ : ∃ g', g = g' + 1 := ⟨g - 1, by omega⟩
      simp only [List.length_cons] at hl hi
      have hle := length_evens r
      cases i with
      | zero => simp [mkT, Trie.setF]
      | succ j =>
        obtain ⟨h1, h2⟩ := evens_set r j x
        have hlen := evens_odds r
        by_cases hj : j % 2 = 0
        · obtain ⟨q1, q2⟩ := h1 hj
          have hlt : j / 2 < (evens r).length := by
            have := (hlen (j / 2)).1
            rw [show 2 * (j / 2) = j by omega, List.getElem?_eq_getElem (show j < r.length by omega)] at this
            exact (List.getElem?_eq_some_iff.1 this).1
          simp only [mkT, Trie.setF, List.set_cons_succ, q1, q2]
          rw [if_neg (by omega), if_pos (by omega), show (j + 1 - 1) / 2 = j / 2 by simp, ih _ _ _ _ (by omega) hlt (by omega)]
        · obtain ⟨q1, q2⟩ := h2 (by omega)
          have hlt : j / 2 < (odds r).length := by
            have := (hlen (j / 2)).2
            rw [show 2 * (j / 2) + 1 = j by omega, List.getElem?_eq_getElem (show j < r.length by omega)] at this
            exact (List.getElem?_eq_some_iff.1 this).1
          simp only [mkT, Trie.setF, List.set_cons_succ, q1, q2]
          rw [if_neg (by omega), if_neg (by omega), show (j + 1 - 1) / 2 = j / 2 by simp, ih _ _ _ _ (by omega) hlt (by omega)]

def setV (vs : List Value) (d : Option Tmp) (v : Value) : List Value := match d with
  | some d => vs.set d v
  | none => vs

def getV : List Value → Nat → Value
  | [], _ => undef
  | a :: _, 0 => a
  | _ :: r, i + 1 => getV r i

def evalV (vs : List Value) : Operand → Value
  | .tmp t => getV vs t
  | .const v => v
  | .global g => .pointer (some ⟨g, 0, none⟩)
  | .func f => .func (.func f) #[] #[]

theorem getV_eq : ∀ (vs : List Value) (i : Nat), getV vs i = (vs[i]?).getD undef
  | [], i => by simp [getV]
  | a :: r, 0 => by simp [getV]
  | a :: r, i + 1 => by simp [getV, getV_eq r i]

theorem frameV_get (vs : List Value) (i : Nat) : (frameV vs).get i = getV vs i := by
  simp only [AAct.get, frameV, get_mkT _ _ _ (Nat.le_refl _), getV_eq]

theorem frameV_eval (vs : List Value) : (frameV vs).eval = evalV vs := by
  funext x
  cases x with
  | tmp t => exact frameV_get vs t
  | _ => rfl

theorem frameV_put (vs : List Value) (d : Option Tmp) (v : Value) : (frameV vs).put d v = frameV (setV vs d v) := by
  cases d with
  | none => rfl
  | some d =>
    simp only [AAct.put, setV]
    by_cases hd : d < vs.length
    · rw [if_pos (by simpa [frameV] using hd)]
      simp only [frameV, List.length_set]
      congr 1
      exact mkT_set _ _ _ _ _ (Nat.le_refl _) hd (by omega)
    · rw [if_neg (by simpa [frameV] using hd), List.set_eq_of_length_le (Nat.le_of_not_lt hd)]

section
variable {P : Program} {Q : APost} {vs : List Value} {h : Heap} {n : Nat} {ops : Array Oper} {o : Oper} {rest : List Oper}

theorem wantedA_none {fr : AAct} (hg : o.guard = none) : wantedA ops o fr = true := by
  unfold wantedA Region.wanted
  rw [hg]

theorem seqV.nil (q : Q .normal (frameV vs) h n) : seqW P (acall P) ops Q [] (frameV vs) h n := q

/-- A calm operation. -/
theorem seqV.calm (vs' : List Value) {v : Value} (hg : o.guard = none) (hok : okOper P.globals.size o = true) (hv : calmE P o (evalV vs) h = some v) (hd : setV vs o.dst v = vs') (k : seqW P (acall P) ops Q rest (frameV vs') h n) : seqW P (acall P) ops Q (o :: rest) (frameV vs) h n := by
  subst hd
  simp only [seqW, opW, wantedA_none hg, if_true, frameV_eval, frameV_put]
  exact ⟨hok, by rw [hv]; exact k⟩

/-- An operation that acts. -/
theorem seqV.act (vs' : List Value) {v : Value} {h' : Heap} {n' : Nat} (hg : o.guard = none) (hok : okOper P.globals.size o = true) (hc : calmE P o (evalV vs) h = none) (hv : actE P o (evalV vs) h n = some (.val v, h', n')) (hd : setV vs o.dst v = vs') (k : seqW P (acall P) ops Q rest (frameV vs') h' n') :
    seqW P (acall P) ops Q (o :: rest) (frameV vs) h n := by
  subst hd
  simp only [seqW, opW, wantedA_none hg, if_true, frameV_eval]
  exact ⟨hok, by rw [hc, hv]; simp only [resW, frameV_put]; exact k⟩

/-- A call that returns. -/
theorem seqV.call {f : FuncId} {args : List Value} {h' : Heap} {n' : Nat} {R : Value → Heap → Nat → Prop} (hg : o.guard = none) (hok : okOper P.globals.size o = true) (hc : calmE P o (evalV vs) h = none)
    (hv : actE P o (evalV vs) h n = some (.ent f args, h', n')) (c : ACall P f args.toArray h' n' fun r h1 n1 => ∃ v, r = .ret v ∧ R v h1 n1)
    (k : ∀ v h1 n1, R v h1 n1 → seqW P (acall P) ops Q rest (frameV (setV vs o.dst v)) h1 n1) : seqW P (acall P) ops Q (o :: rest) (frameV vs) h n := by
  simp only [seqW, opW, wantedA_none hg, if_true, frameV_eval]
  refine ⟨hok, ?_⟩
  rw [hc, hv]
  refine ACall.mono c ?_
  rintro r h1 n1 _ _ ⟨v, rfl, hr⟩
  exact ⟨h1, Heap.sub_refl _, by simp only [frameV_put]; exact k v h1 n1 hr⟩

/-- A load of a variable that is one cell, of a known row. -/
theorem seqV.load (vs' : List Value) {dst : Option Tmp} {t ty : TypeId} {a : Operand} {pos : String} {after : Array Edge} {b o : Nat} {cs : List Value} {own : Bool} {ci : CI} {v : Value} (ht : isAggE P t = some false) (hi : (P.info? t).isSome = true) (hok : okOperand P.globals.size a = true)
    (ha : evalV vs a = .pointer (some ⟨b, o, none⟩)) (hb : h.get b = some (.cells cs own ci)) (hc : cs[o]? = some v) (hd : setV vs dst v = vs') (k : seqW P (acall P) ops Q rest (frameV vs') h n) : seqW P (acall P) ops Q (⟨dst, .load t a, ty, pos, after, none⟩ :: rest) (frameV vs) h n := by
  refine seqV.calm vs' rfl (by simp [okOper, Op.operands, hok]) (v := v) ?_ hd k
  obtain ⟨i, hi⟩ := Option.isSome_iff_exists.1 hi
  simp only [calmE, ha, loadE, ht, hi, hb, hc]

/-- A field's place. -/
def fieldOff (P : Program) (s : TypeId) (f : Nat) : Option Nat :=
  match P.underlying s with
  | some (.struct fields) => match fields[f]? with
    | some fd => match P.info? fd.type with
      | some i => if i.size = 0 then none else some fd.offset
      | none => none
    | none => none
  | _ => none

theorem fieldAddrE_off {s f b o off : Nat} (hf : fieldOff P s f = some off) : fieldAddrE P s (.pointer (some ⟨b, o, none⟩)) f = some (.pointer (some ⟨b, o + off, none⟩)) := by
  unfold fieldOff at hf
  unfold fieldAddrE
  split at hf
  · rename_i fields hu
    rw [hu]
    simp only
    split at hf
    · rename_i fd hfd
      rw [hfd]
      simp only
      split at hf
      · rename_i i hi
        rw [hi]
        simp only
        split at hf
        · cases hf
        · rename_i hs
          cases hf
          rw [if_neg hs]
      · cases hf
    · cases hf
  · cases hf

theorem seqV.field (vs' : List Value) {dst : Option Tmp} {s ty : TypeId} {x : Operand} {f : Nat} {pos : String} {after : Array Edge} {b o off : Nat} (hf : fieldOff P s f = some off) (hok : okOperand P.globals.size x = true)
    (hx : evalV vs x = .pointer (some ⟨b, o, none⟩)) (hd : setV vs dst (.pointer (some ⟨b, o + off, none⟩)) = vs') (k : seqW P (acall P) ops Q rest (frameV vs') h n) : seqW P (acall P) ops Q (⟨dst, .fieldAddr s x f, ty, pos, after, none⟩ :: rest) (frameV vs) h n := by
  refine seqV.calm vs' rfl (by simp [okOper, Op.operands, hok]) (v := .pointer (some ⟨b, o + off, none⟩)) ?_ hd k
  simp only [calmE, pureE, hx, fieldAddrE_off hf]

/-- A place in a slice. -/
theorem seqV.index (vs' : List Value) {dst : Option Tmp} {t ty : TypeId} {x ix : Operand} {pos : String} {after : Array Edge} {vx vi v : Value} (hok : okOperand P.globals.size x = true) (hok' : okOperand P.globals.size ix = true)
    (hx : evalV vs x = vx) (hi : evalV vs ix = vi) (hv : indexAddrE P t vx vi = some v) (hd : setV vs dst v = vs') (k : seqW P (acall P) ops Q rest (frameV vs') h n) : seqW P (acall P) ops Q (⟨dst, .indexAddr t x ix, ty, pos, after, none⟩ :: rest) (frameV vs) h n := by
  refine seqV.calm vs' rfl (by simp [okOper, Op.operands, hok, hok']) (v := v) ?_ hd k
  simp only [calmE, pureE, hx, hi, hv]

/-- A test. -/
theorem AWp.testV {c : Operand} {x y : Code} {t : Bool} (ho : okOperand P.globals.size c = true) (hc : evalV vs c = .bool t) (hx : t = true → AWp P x Q (frameV vs) h n) (hy : t = false → AWp P y Q (frameV vs) h n) : AWp P (.cond c x y) Q (frameV vs) h n := by
  refine AWp.cond ho (by rw [frameV_eval]; exact hc) ?_
  cases t with
  | true => exact hx rfl
  | false => exact hy rfl

theorem valsOf_frameV (vs : List Value) : valsOf (frameV vs) vs.length = vs := by
  apply List.ext_getElem?
  intro i
  simp only [valsOf, List.getElem?_map]
  by_cases hi : i < vs.length
  · rw [List.getElem?_range hi]
    simp [frameV_get, getV_eq, hi]
  · rw [List.getElem?_eq_none (by simp; omega), List.getElem?_eq_none (by omega)]; rfl

/-- A loop, its frame written out. -/
theorem AWp.loopV {c : Code} (I : Nat → List Value → Heap → Nat → Prop) (d : Nat) (h0 : I d vs h n)
    (round : ∀ d vs h n, I d vs h n → AWp P c (AExit.then (fun fr' h' n' => ∃ vs' d', fr' = frameV vs' ∧ d' < d ∧ I d' vs' h' n') Q) (frameV vs) h n) : AWp P (.loop c) Q (frameV vs) h n := by
  refine AWp.loop (fun d fr h n => ∃ vs, fr = frameV vs ∧ I d vs h n) d ⟨vs, rfl, h0⟩ ?_
  rintro d fr h n ⟨vs, rfl, hi⟩
  refine AWp.mono (round d _ h n hi) ?_
  intro x fr' h' n' _ _ q
  cases x with
  | normal => obtain ⟨vs', d', a, b, c⟩ := q; exact ⟨d', b, vs', a, c⟩
  | _ => exact q

/-- A function's body, from its arguments on. -/
theorem ACall.of_bodyV {f : FuncId} {fn : Func} {c : Code} {args : List Value} {R : AEnd → Heap → Nat → Prop}
    (hf : P.funcs[f]? = some fn) (hb : fn.body = some c) (hvs : vs = args ++ List.replicate (fn.ntmps - args.length) undef) (q : AWp P c (bodyA P fn R) (frameV vs) h n) : ACall P f args.toArray h n R := by
  refine ACall.of_body hf hb ?_
  refine AWp.norm (k := vs.length) (by rw [hvs]; simp [frameOf]) rfl ?_
  have : valsOf (frameOf args fn.ntmps) vs.length = vs := by
    apply List.ext_getElem?
    intro i
    simp only [valsOf, List.getElem?_map]
    by_cases hi : i < vs.length
    · rw [List.getElem?_range hi]
      simp only [Option.map_some, AAct.get, frameOf, get_frameT, Nat.zero_le, true_and, Nat.zero_add, Nat.sub_zero, Trie.get_nil]
      rw [hvs] at hi ⊢
      by_cases ha : i < args.length
      · rw [if_pos ha, List.getElem?_append_left ha, List.getElem?_eq_getElem ha]; rfl
      · simp at hi
        rw [if_neg ha, List.getElem?_append_right (by omega), List.getElem?_replicate, if_pos (by omega)]; rfl
    · rw [List.getElem?_eq_none (by simp; omega), List.getElem?_eq_none (by omega)]; rfl
  rw [this]
  exact q

/-- The end of a body without deferred calls. -/
theorem bodyV {fn : Func} {R : AEnd → Heap → Nat → Prop} {rs : List Value} (hr : resultsE P (frameV vs) h fn.results.toList = some rs) (q : R (.ret (tupleE rs)) h n) : (frameV vs).defers = [] ∧ ∃ vs', resultsE P (frameV vs) h fn.results.toList = some vs' ∧ R (.ret (tupleE vs')) h n :=
  ⟨rfl, rs, hr, q⟩
end
end Go.Abs
