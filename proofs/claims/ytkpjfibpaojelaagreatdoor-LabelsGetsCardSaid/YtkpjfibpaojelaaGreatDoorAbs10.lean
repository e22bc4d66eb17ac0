/- Calm operations: those that read no memory, and those that read alone. -/
import Derived.Test.YtkpjfibpaojelaaGreatDoorAbs9
namespace Go.Abs
open Go

def builtinE (P : Program) (b : Builtin) (ts : Array TypeId) (args : List Value) : Option Value :=
  match b with
  | .len => lenE P ts.toList args
  | .cap => match ts.toList, args with
    | t :: _, [.slice _ _ c] => match P.underlying t with
      | some (.slice _) => if c = U then none else some (.int .i64 c)
      | _ => none
    | _, _ => none
  | .min => match args with
    | [.int k a, .int _ b] => some (.int k (if b < a then b else a))
    | _ => none
  | .max => match args with
    | [.int k a, .int _ b] => some (.int k (if b > a then b else a))
    | _ => none
  | _ => none

theorem builtinE_sound {P : Program} {μ : Mu} {b : Builtin} {ts : Array TypeId} {ty : TypeId} {args args' : List Value} {v : Value} (ha : LRel μ args args') (e : builtinE P b ts args = some v) (cs : Array Bool) (w : World) :
    ∃ v', (builtin b ts ty cs args'.toArray).run P w = .ok (.value v') w ∧ VRel μ v v' := by
  unfold builtinE at e
  split at e
  · obtain ⟨q1, q2⟩ := lenE_sound ha e w ty
    exact ⟨v, by simp [builtin, q1], q2⟩
  · split at e
    · rename_i t rest s n c hts
      cases ha with
      | cons hx ht =>
        cases ht
        have h0 : ts[0]? = some t := by rw [← Array.getElem?_toList, hts]; rfl
        split at e
        · rename_i el hu
          split at e
          · cases e
          · rename_i hc
            cases e
            cases hx with
            | snil => exact ⟨_, by simp [builtin, Builtin.cap_, h0, run_underlying_of hu, goInt], .int _ _⟩
            | slice o len cap cap' hm hcc =>
              rcases hcc with ⟨_, rfl⟩ | ⟨h, _⟩
              · exact ⟨_, by simp [builtin, Builtin.cap_, h0, run_underlying_of hu, goInt], .int _ _⟩
              · exact (hc h).elim
        · cases e
    · cases e
  · split at e
    · cases e
      cases ha with
      | cons hx ht => cases ht with
        | cons hy ht => cases ht; cases hx; cases hy; exact ⟨_, by simp [builtin, Builtin.min_, Builtin.min2], .int _ _⟩
    · cases e
  · split at e
    · cases e
      cases ha with
      | cons hx ht => cases ht with
        | cons hy ht => cases ht; cases hx; cases hy; exact ⟨_, by simp [builtin, Builtin.max_, Builtin.max2], .int _ _⟩
    · cases e
  · cases e

def nilCheckE (x : Value) : Option Value :=
  match x with
  | .pointer (some a) => some (.pointer (some a))
  | .iface t v => some (.iface t v)
  | .func (.func f) a b => some (.func (.func f) a b)
  | _ => none

def pureE (P : Program) (o : Oper) (ρ : Operand → Value) : Option Value :=
  match o.op with
  | .move x => some (ρ x)
  | .assign x => some (ρ x)
  | .pick c a b => match ρ c with
    | .bool t => some (if t then ρ a else ρ b)
    | _ => none
  | .build t parts => buildE P t (parts.toList.map fun p => (p.1, ρ p.2))
  | .nilCheck x => nilCheckE (ρ x)
  | .binOp op t x y _ => binE P op t (isConst x) (isConst y) (ρ x) (ρ y)
  | .unOp op _ x => unE P op (ρ x)
  | .convert s d x => convE P s d (ρ x)
  | .makeInterface t x => match P.underlying t with
    | some (.interface _) => none
    | some _ => some (.iface t (ρ x))
    | none => none
  | .makeFunc fn f c => some (.func fn (f.toList.map ρ).toArray (c.toList.map ρ).toArray)
  | .fieldAddr s x f => fieldAddrE P s (ρ x) f
  | .field t x f => fieldE P t (ρ x) f
  | .indexAddr t x ix => indexAddrE P t (ρ x) (ρ ix)
  | .index t x ix => indexE P t (ρ x) (ρ ix)
  | .typeAssert x _ a ok => assertE P (ρ x) a ok
  | .extract x i => extractE (ρ x) i
  | .call c => match c.callee with
    | .builtin b => builtinE P b c.argTypes (c.args.toList.map ρ)
    | _ => none
  | _ => none

theorem LRel.of_map {μ : Mu} {ρ ρ' : Operand → Value} : ∀ (xs : List Operand), (∀ x ∈ xs, VRel μ (ρ x) (ρ' x)) → LRel μ (xs.map ρ) (xs.map ρ') := by
  intro xs
  induction xs with
  | nil => intro _; exact .nil
  | cons x xs ih => intro h; exact .cons (h x (by simp)) (ih fun y hy => h y (by simp [hy]))

theorem pureE_sound {P : Program} {μ : Mu} {o : Oper} {ρ ρ' : Operand → Value} {v : Value} (hρ : ∀ x ∈ o.op.operands, VRel μ (ρ x) (ρ' x)) (e : pureE P o ρ = some v) (w : World) :
    ∃ v', (execOp ρ' o).run P w = .ok (.value v') w ∧ VRel μ v v' := by
  obtain ⟨dst, op, ty, pos, after, guard⟩ := o
  unfold pureE at e
  cases op <;> simp only [Op.operands] at hρ <;> simp only at e <;> (try (cases e; done))
  case move x => cases e; exact ⟨_, rfl, hρ x (by simp)⟩
  case assign x => cases e; exact ⟨_, rfl, hρ x (by simp)⟩
  case pick c a b =>
    have hc := hρ c (by simp)
    split at e
    · rename_i t ht
      rw [ht] at hc
      generalize hc' : ρ' c = z at hc
      cases hc
      cases e
      refine ⟨if t then ρ' a else ρ' b, by simp [execOp, hc', asBool], ?_⟩
      cases t
      · exact hρ b (by simp)
      · exact hρ a (by simp)
    · cases e
  case build t ps =>
    obtain ⟨v', q1, q2⟩ := buildE_sound (PRel.of_map ps.toList (fun x hx => hρ x (by simpa using hx))) e w
    refine ⟨v', ?_, q2⟩
    have : (ps.map fun (i, x) => (i, ρ' x)) = (ps.toList.map fun p => (p.1, ρ' p.2)).toArray := by apply Array.ext'; simp
    simp only [execOp, this, Sem.run_bind, q1, Result.andThen_ok, Sem.run_pure]
  case nilCheck x =>
    have hx := hρ x (by simp)
    unfold nilCheckE at e
    split at e
    · rename_i a ha
      rw [ha] at hx
      generalize hx' : ρ' x = z at hx
      cases hx with
      | ptr o hm => cases e; exact ⟨_, by simp [execOp, hx'], .ptr o hm⟩
    · rename_i t u ha
      rw [ha] at hx
      generalize hx' : ρ' x = z at hx
      cases hx with
      | iface _ hv => cases e; exact ⟨_, by simp [execOp, hx'], .iface t hv⟩
    · rename_i f c d ha
      rw [ha] at hx
      generalize hx' : ρ' x = z at hx
      cases hx with
      | func fn h1 h2 h3 h4 => cases e; exact ⟨_, by simp [execOp, hx'], .func _ h1 h2 h3 h4⟩
    · cases e
  case binOp op t x y yt =>
    obtain ⟨q1, q2⟩ := run_binE (hρ x (by simp)) (hρ y (by simp)) e w
    exact ⟨v, by simp only [execOp, Sem.run_bind] at q1 ⊢; rw [q1]; rfl, q2⟩
  case unOp op t x =>
    obtain ⟨q1, q2⟩ := unE_sound (hρ x (by simp)) e w
    exact ⟨v, by simp [execOp, q1], q2⟩
  case convert s d x =>
    obtain ⟨q1, q2⟩ := convE_sound (hρ x (by simp)) e w
    exact ⟨v, by simp [execOp, q1], q2⟩
  case makeInterface t x =>
    have hx := hρ x (by simp)
    split at e
    · cases e
    · rename_i d hni hu
      cases e
      refine ⟨_, ?_, .iface t hx⟩
      simp only [execOp, Instr.makeInterface, Sem.run_bind, run_underlying_of hu, Result.andThen_ok]
      cases d <;> first | exact (hni _ rfl).elim | rfl
    · cases e
  case makeFunc fn f c =>
    cases e
    have h1 := LRel.of_map f.toList (fun x hx => hρ x (by simp at hx; simp [hx]))
    have h2 := LRel.of_map c.toList (fun x hx => hρ x (by simp at hx; simp [hx]))
    refine ⟨.func fn (f.toList.map ρ').toArray (c.toList.map ρ').toArray, ?_, .func fn h1.arr.1 h2.arr.1 h1.arr.2 h2.arr.2⟩
    have e1 : f.map ρ' = (f.toList.map ρ').toArray := by apply Array.ext'; simp
    have e2 : c.map ρ' = (c.toList.map ρ').toArray := by apply Array.ext'; simp
    simp [execOp, Instr.makeFunc, e1, e2]
  case fieldAddr s x f =>
    obtain ⟨v', q1, q2⟩ := fieldAddrE_sound (hρ x (by simp)) e w
    exact ⟨v', by simp [execOp, q1], q2⟩
  case field s x f =>
    obtain ⟨v', q1, q2⟩ := fieldE_sound (hρ x (by simp)) e w
    exact ⟨v', by simp [execOp, q1], q2⟩
  case indexAddr t x ix =>
    obtain ⟨v', q1, q2⟩ := indexAddrE_sound (hρ x (by simp)) (hρ ix (by simp)) e w
    exact ⟨v', by simp [execOp, q1], q2⟩
  case index t x ix =>
    obtain ⟨v', q1, q2⟩ := indexE_sound (hρ x (by simp)) (hρ ix (by simp)) e w
    exact ⟨v', by simp [execOp, q1], q2⟩
  case typeAssert x xt a ok =>
    obtain ⟨v', q1, q2⟩ := assertE_sound (xt := xt) (hρ x (by simp)) e w
    exact ⟨v', by simp [execOp, q1], q2⟩
  case extract x i =>
    obtain ⟨v', q1, q2⟩ := extractE_sound (P := P) (hρ x (by simp)) e w
    exact ⟨v', by simp [execOp, q1], q2⟩
  case call c =>
    split at e
    · rename_i b hb
      have ha := LRel.of_map c.args.toList (fun x hx => hρ x (by simp [Call.operands, hb]; simpa using hx))
      obtain ⟨v', q1, q2⟩ := builtinE_sound ha e (c.args.map fun | .const _ => true | _ => false) w
      refine ⟨v', ?_, q2⟩
      have e1 : c.args.map ρ' = (c.args.toList.map ρ').toArray := by apply Array.ext'; simp
      simp only [execOp, resolve, hb, Sem.run_bind, Sem.run_pure, Result.andThen_ok, invoke, e1]
      exact q1
    · cases e
end Go.Abs
