/- Stepping by hand: regions of calm operations alone, in their row or in any; guards; loads of structs; stores; calls that change nothing. -/
import Derived.Test.YtkpjfibpaojelaaGreatDoorAbs27
namespace Go.Abs
open Go

/-- A region of calm operations alone. -/
def calmW (P : Program) (ops : Array Oper) (Q : APost) : List Oper → ANextK
  | [], fr, h, n => Q .normal fr h n
  | o :: rest, fr, h, n => kindOf P o ≠ 0 ∧ if wantedA ops o fr then okOper P.globals.size o = true ∧ match calmE P o fr.eval h with
      | some v => calmW P ops Q rest (fr.put o.dst v) h n
      | none => False
    else calmW P ops Q rest (fr.put o.dst undef) h n

section
variable {P : Program} {Q : APost} {ops : Array Oper}

theorem calmW.seq : ∀ {l : List Oper} {fr : AAct} {h : Heap} {n : Nat}, calmW P ops Q l fr h n → seqW P (acall P) ops Q l fr h n := by
  intro l
  induction l with
  | nil => intro fr h n q; exact q
  | cons o rest ih =>
    intro fr h n q
    obtain ⟨_, q⟩ := q
    simp only [seqW, opW]
    split at q
    · rename_i hw
      rw [if_pos hw]
      obtain ⟨hok, q⟩ := q
      refine ⟨hok, ?_⟩
      split at q
      · rename_i v hv; rw [hv]; exact ih q
      · exact q.elim
    · rename_i hw
      rw [if_neg hw]
      exact ih q

theorem calmW.draw : ∀ {l : List Oper} {k : Nat} {inv : Inv} {fr : AAct} {h : Heap} {n : Nat}, (∀ j o, l[j]? = some o → ops[k + j]? = some o) → calmW P ops Q l fr h n → drawW P (acall P) ops Q (List.range' k l.length) inv fr h n := by
  intro l
  induction l with
  | nil => intro k inv fr h n _ q; exact q
  | cons o rest ih =>
    intro k inv fr h n hl q
    obtain ⟨hk, q⟩ := q
    simp only [List.length_cons, List.range'_succ, drawW]
    rw [show ops[k]? = some o from hl 0 o rfl]
    simp only
    rw [if_neg hk]
    have hl' : ∀ j o, rest[j]? = some o → ops[k + 1 + j]? = some o := fun j o hj => by have := hl (j + 1) o (by simpa using hj); rw [show k + 1 + j = k + (j + 1) by omega]; exact this
    split at q
    · rename_i hw
      rw [if_pos hw]
      obtain ⟨hok, q⟩ := q
      refine ⟨hok, ?_⟩
      split at q
      · rename_i v hv; rw [hv]; exact ih hl' q
      · exact q.elim
    · rename_i hw
      rw [if_neg hw]
      exact ih hl' q

theorem AWp.calm_region (ok : POk P) {id : Nat} {l : List Oper} {fr : AAct} {h : Heap} {n : Nat} (q : calmW P l.toArray Q l fr h n) : AWp P (.region id l.toArray false) Q fr h n := AWp.seq_region ok q.seq

theorem AWp.calm_draw (ok : POk P) {id : Nat} {l : List Oper} {fr : AAct} {h : Heap} {n : Nat} (hsel : Region.noSelect l.toArray = true) (hp : planOk P l.toArray (List.range l.length) (Array.replicate l.length false) = true) (hpan : PanExt [] Q)
    (q : calmW P l.toArray Q l fr h n) : AWp P (.region id l.toArray true) Q fr h n := by
  refine AWp.draw_region ok (List.range l.length) hsel (by simpa using hp) (by simp) (S := []) (by unfold avoids; rw [List.all_eq_true]; intro o _; cases o.dst <;> rfl) hpan ?_
  rw [List.range_eq_range']
  exact calmW.draw (fun j o hj => by simpa using hj) q
end

section
variable {P : Program} {Q : APost} {vs : List Value} {h : Heap} {n : Nat} {ops : Array Oper} {o : Oper} {rest : List Oper}

theorem seqV.calmG (vs' : List Value) {v : Value} (hw : wantedA ops o (frameV vs) = true) (hok : okOper P.globals.size o = true) (hv : calmE P o (evalV vs) h = some v) (hd : setV vs o.dst v = vs') (k : seqW P (acall P) ops Q rest (frameV vs') h n) : seqW P (acall P) ops Q (o :: rest) (frameV vs) h n := by
  subst hd
  simp only [seqW, opW, hw, if_true, frameV_eval, frameV_put]
  exact ⟨hok, by rw [hv]; exact k⟩

theorem seqV.skip (vs' : List Value) (hw : wantedA ops o (frameV vs) = false) (hd : setV vs o.dst undef = vs') (k : seqW P (acall P) ops Q rest (frameV vs') h n) : seqW P (acall P) ops Q (o :: rest) (frameV vs) h n := by
  subst hd
  simp only [seqW, opW, hw, Bool.false_eq_true, if_false, frameV_put]
  exact k

theorem seqV.callG (vs' : Value → List Value) {f : FuncId} {args : List Value} {h' : Heap} {n' : Nat} {R : Value → Heap → Nat → Prop} (hw : wantedA ops o (frameV vs) = true) (hok : okOper P.globals.size o = true) (hc : calmE P o (evalV vs) h = none)
    (hv : actE P o (evalV vs) h n = some (.ent f args, h', n')) (hd : ∀ v, setV vs o.dst v = vs' v) (c : ACall P f args.toArray h' n' fun r h1 n1 => ∃ v, r = .ret v ∧ R v h1 n1)
    (k : ∀ v h1 n1, R v h1 n1 → seqW P (acall P) ops Q rest (frameV (vs' v)) h1 n1) : seqW P (acall P) ops Q (o :: rest) (frameV vs) h n := by
  simp only [seqW, opW, hw, if_true, frameV_eval]
  refine ⟨hok, ?_⟩
  rw [hc, hv]
  refine ACall.mono c ?_
  rintro r h1 n1 _ _ ⟨v, rfl, hr⟩
  exact ⟨h1, Heap.sub_refl _, by simp only [frameV_put, hd]; exact k v h1 n1 hr⟩

/-- A call of a function by its name. -/
theorem seqV.callF (vs' : Value → List Value) {dst : Option Tmp} {f : FuncId} {args : Array Operand} {ts : Array TypeId} {ty : TypeId} {pos : String} {after : Array Edge} {guard : Option (Nat × Bool)} {xs : List Value} {R : Value → Heap → Nat → Prop}
    (hw : wantedA ops ⟨dst, .call { callee := .value (.func f), args := args, argTypes := ts }, ty, pos, after, guard⟩ (frameV vs) = true) (hok : args.toList.all (okOperand P.globals.size) = true)
    (hf : ((P.funcs[f]?).bind (·.body)).isSome = true) (ha : args.toList.map (evalV vs) = xs) (hd : ∀ v, setV vs dst v = vs' v) (c : ACall P f xs.toArray h n fun r h1 n1 => ∃ v, r = .ret v ∧ R v h1 n1)
    (k : ∀ v h1 n1, R v h1 n1 → seqW P (acall P) ops Q rest (frameV (vs' v)) h1 n1) :
    seqW P (acall P) ops Q (⟨dst, .call { callee := .value (.func f), args := args, argTypes := ts }, ty, pos, after, guard⟩ :: rest) (frameV vs) h n := by
  obtain ⟨fn, hfn, hb⟩ : ∃ fn, P.funcs[f]? = some fn ∧ fn.body.isSome = true := by
    cases hx : P.funcs[f]? with
    | none => rw [hx] at hf; cases hf
    | some fn => rw [hx] at hf; exact ⟨fn, rfl, by simpa using hf⟩
  refine seqV.callG vs' hw ?_ rfl (f := f) (args := xs) (h' := h) (n' := n) ?_ hd c k
  · unfold okOper
    simp only [Op.operands, Call.operands]
    simp [okOperand] at hok ⊢
    exact hok
  · subst ha
    have hcal : calleeE P (.func (.func f) #[] #[]) (args.toList.map (evalV vs)) = some (f, args.toList.map (evalV vs)) := by
      simp only [calleeE, hfn, hb, if_true, List.nil_append, List.append_nil]
    show (match calleeE P (.func (.func f) #[] #[]) (args.toList.map (evalV vs)) with | some (k, ys) => some (ARes.ent k ys, h, n) | none => _) = _
    rw [hcal]
end
end Go.Abs
