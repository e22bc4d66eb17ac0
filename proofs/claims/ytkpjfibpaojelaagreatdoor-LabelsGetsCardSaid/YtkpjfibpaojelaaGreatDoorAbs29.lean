/- Stepping by hand through a region of calm operations alone, whatever its order. -/
import Derived.Test.YtkpjfibpaojelaaGreatDoorAbs28
namespace Go.Abs
open Go

section
variable {P : Program} {Q : APost} {vs : List Value} {h : Heap} {n : Nat} {ops : Array Oper} {o : Oper} {rest : List Oper}

theorem cW.nil (q : Q .normal (frameV vs) h n) : calmW P ops Q [] (frameV vs) h n := q

theorem cW.calm (vs' : List Value) {v : Value} (hk : (kindOf P o != 0) = true) (hw : wantedA ops o (frameV vs) = true) (hok : okOper P.globals.size o = true) (hv : calmE P o (evalV vs) h = some v) (hd : setV vs o.dst v = vs') (k : calmW P ops Q rest (frameV vs') h n) : calmW P ops Q (o :: rest) (frameV vs) h n := by
  subst hd
  simp only [calmW, hw, if_true, frameV_eval, frameV_put]
  exact ⟨by simpa using hk, hok, by rw [hv]; exact k⟩

theorem cW.skip (vs' : List Value) (hk : (kindOf P o != 0) = true) (hw : wantedA ops o (frameV vs) = false) (hd : setV vs o.dst undef = vs') (k : calmW P ops Q rest (frameV vs') h n) : calmW P ops Q (o :: rest) (frameV vs) h n := by
  subst hd
  simp only [calmW, hw, Bool.false_eq_true, if_false, frameV_put]
  exact ⟨by simpa using hk, k⟩

theorem cW.load (vs' : List Value) {dst : Option Tmp} {t ty : TypeId} {a : Operand} {pos : String} {after : Array Edge} {guard : Option (Nat × Bool)} {b o : Nat} {cs : List Value} {own : Bool} {ci : CI} {v : Value} (hw : wantedA ops ⟨dst, .load t a, ty, pos, after, guard⟩ (frameV vs) = true)
    (ht : isAggE P t = some false) (hi : (P.info? t).isSome = true) (hok : okOperand P.globals.size a = true) (ha : evalV vs a = .pointer (some ⟨b, o, none⟩)) (hb : h.get b = some (.cells cs own ci)) (hc : cs[o]? = some v) (hd : setV vs dst v = vs')
    (k : calmW P ops Q rest (frameV vs') h n) : calmW P ops Q (⟨dst, .load t a, ty, pos, after, guard⟩ :: rest) (frameV vs) h n := by
  refine cW.calm vs' rfl hw (by simp [okOper, Op.operands, hok]) (v := v) ?_ hd k
  obtain ⟨i, hi⟩ := Option.isSome_iff_exists.1 hi
  simp only [calmE, ha, loadE, ht, hi, hb, hc]

theorem cW.field (vs' : List Value) {dst : Option Tmp} {s ty : TypeId} {x : Operand} {f : Nat} {pos : String} {after : Array Edge} {guard : Option (Nat × Bool)} {b o off : Nat} (hw : wantedA ops ⟨dst, .fieldAddr s x f, ty, pos, after, guard⟩ (frameV vs) = true)
    (hf : fieldOff P s f = some off) (hok : okOperand P.globals.size x = true) (hx : evalV vs x = .pointer (some ⟨b, o, none⟩)) (hd : setV vs dst (.pointer (some ⟨b, o + off, none⟩)) = vs') (k : calmW P ops Q rest (frameV vs') h n) : calmW P ops Q (⟨dst, .fieldAddr s x f, ty, pos, after, guard⟩ :: rest) (frameV vs) h n := by
  refine cW.calm vs' rfl hw (by simp [okOper, Op.operands, hok]) (v := .pointer (some ⟨b, o + off, none⟩)) ?_ hd k
  simp only [calmE, pureE, hx, fieldAddrE_off hf]

theorem cW.index (vs' : List Value) {dst : Option Tmp} {t ty : TypeId} {x ix : Operand} {pos : String} {after : Array Edge} {guard : Option (Nat × Bool)} {vx vi v : Value} (hw : wantedA ops ⟨dst, .indexAddr t x ix, ty, pos, after, guard⟩ (frameV vs) = true) (hok : okOperand P.globals.size x = true) (hok' : okOperand P.globals.size ix = true)
    (hx : evalV vs x = vx) (hi : evalV vs ix = vi) (hv : indexAddrE P t vx vi = some v) (hd : setV vs dst v = vs') (k : calmW P ops Q rest (frameV vs') h n) : calmW P ops Q (⟨dst, .indexAddr t x ix, ty, pos, after, guard⟩ :: rest) (frameV vs) h n := by
  refine cW.calm vs' rfl hw (by simp [okOper, Op.operands, hok, hok']) (v := v) ?_ hd k
  simp only [calmE, pureE, hx, hi, hv]

/-- A load of a whole struct. -/
theorem seqV.loadA (vs' : List Value) {dst : Option Tmp} {t ty : TypeId} {a : Operand} {pos : String} {after : Array Edge} {b o k : Nat} {xs : List Value} (ht : isAggE P t = some true) (hi : (P.info? t).map (·.size) = some k) (hok : okOperand P.globals.size a = true)
    (ha : evalV vs a = .pointer (some ⟨b, o, none⟩)) (hr : rowE h b o k = some xs) (hd : setV vs dst (.agg xs.toArray) = vs') (q : seqW P (acall P) ops Q rest (frameV vs') h n) : seqW P (acall P) ops Q (⟨dst, .load t a, ty, pos, after, none⟩ :: rest) (frameV vs) h n := by
  refine seqV.calm vs' rfl (by simp [okOper, Op.operands, hok]) (v := .agg xs.toArray) ?_ hd q
  cases h40 : P.info? t with
  | none => rw [h40] at hi; cases hi
  | some inf =>
    rw [h40] at hi
    simp only [Option.map_some, Option.some.injEq] at hi
    simp only [calmE, ha, loadE, ht, h40, hi, hr, Option.map_some]

/-- A store of a value. -/
theorem seqV.store {t : TypeId} {a x : Operand} {dst : Option Tmp} {ty : TypeId} {pos : String} {after : Array Edge} {b o k : Nat} {xs cs : List Value} {ci : CI} {v : Value} (hdst : dst = none) (hi : (P.info? t).map (·.size) = some k) (hok : okOperand P.globals.size a = true) (hok' : okOperand P.globals.size x = true)
    (ha : evalV vs a = .pointer (some ⟨b, o, none⟩)) (hx : evalV vs x = v) (hxs : v.cells.toList = xs) (hb : h.get b = some (.cells cs true ci)) (hl : xs.length = k) (hone : (xs.all fun x => x.oneCell') = true) (hle : o + k ≤ cs.length)
    (q : seqW P (acall P) ops Q rest (frameV vs) (h.set b (.cells (setAll cs o xs) true ci)) n) : seqW P (acall P) ops Q (⟨dst, .store t a x, ty, pos, after, none⟩ :: rest) (frameV vs) h n := by
  subst hdst
  cases h40 : P.info? t with
  | none => rw [h40] at hi; cases hi
  | some inf =>
    rw [h40] at hi
    simp only [Option.map_some, Option.some.injEq] at hi
    have hst : storeE P t (.pointer (some ⟨b, o, none⟩)) v h = some (h.set b (.cells (setAll cs o xs) true ci)) := by
      simp only [storeE, hb, h40, hxs, hi]
      rw [if_pos (by simp [hl, hone, hle])]
    simp only [seqW, opW, wantedA_none, if_true]
    refine ⟨by simp [okOper, Op.operands, hok, hok'], ?_⟩
    have hc : calmE P ⟨none, .store t a x, ty, pos, after, none⟩ (frameV vs).eval h = none := rfl
    have hac : actE P ⟨none, .store t a x, ty, pos, after, none⟩ (frameV vs).eval h n = storeOpE P t (evalV vs a) (evalV vs x) h n := by
      simp only [actE, frameV_eval]
    rw [hc, hac, ha, hx]
    unfold storeOpE
    rw [hst]
    exact q

theorem seqV.norm (vs' : List Value) {l : List Oper} (hd : vs = vs') (k : seqW P (acall P) ops Q l (frameV vs') h n) : seqW P (acall P) ops Q l (frameV vs) h n := hd ▸ k

/-- A call of a function's value. -/
theorem seqV.callV (vs' : Value → List Value) {dst : Option Tmp} {fo : Operand} {f : FuncId} {first cap : Array Value} {args : Array Operand} {ts : Array TypeId} {ty : TypeId} {pos : String} {after : Array Edge} {guard : Option (Nat × Bool)} {xs : List Value} {R : Value → Heap → Nat → Prop}
    (hw : wantedA ops ⟨dst, .call { callee := .value fo, args := args, argTypes := ts }, ty, pos, after, guard⟩ (frameV vs) = true) (hok : okOperand P.globals.size fo = true) (hok' : args.toList.all (okOperand P.globals.size) = true)
    (hf : ((P.funcs[f]?).bind (·.body)).isSome = true) (hfo : evalV vs fo = .func (.func f) first cap) (ha : (first.toList ++ args.toList.map (evalV vs)) ++ cap.toList = xs) (hd : ∀ v, setV vs dst v = vs' v) (c : ACall P f xs.toArray h n fun r h1 n1 => ∃ v, r = .ret v ∧ R v h1 n1)
    (k : ∀ v h1 n1, R v h1 n1 → seqW P (acall P) ops Q rest (frameV (vs' v)) h1 n1) :
    seqW P (acall P) ops Q (⟨dst, .call { callee := .value fo, args := args, argTypes := ts }, ty, pos, after, guard⟩ :: rest) (frameV vs) h n := by
  obtain ⟨fn, hfn, hb⟩ : ∃ fn, P.funcs[f]? = some fn ∧ fn.body.isSome = true := by
    cases hx : P.funcs[f]? with
    | none => rw [hx] at hf; cases hf
    | some fn => rw [hx] at hf; exact ⟨fn, rfl, by simpa using hf⟩
  refine seqV.callG vs' hw ?_ rfl (f := f) (args := xs) (h' := h) (n' := n) ?_ hd c k
  · unfold okOper
    simp only [Op.operands, Call.operands]
    simp [hok] at hok' ⊢
    exact hok'
  · subst ha
    have hcal : calleeE P (evalV vs fo) (args.toList.map (evalV vs)) = some (f, (first.toList ++ args.toList.map (evalV vs)) ++ cap.toList) := by
      rw [hfo]
      simp only [calleeE, hfn, hb, if_true]
    show (match calleeE P (evalV vs fo) (args.toList.map (evalV vs)) with | some (k, ys) => some (ARes.ent k ys, h, n) | none => _) = _
    rw [hcal]
end
end Go.Abs
