/- Deferred calls, and recover. -/
import Derived.Test.YtkpjfibpaojelaaGreatDoorAbs21
namespace Go.Abs
open Go

/-- How it stands with the function whose deferred call runs: it returns; it panics; its panic was recovered. -/
inductive MS where
  | calm
  | pend (v : Value)
  | done (v : Value)

inductive MRel (μ : Mu) : MS → FrameMode → Prop
  | calm : MRel μ .calm .returning
  | pend {v v' : Value} (h : VRel μ v v') : MRel μ (.pend v) (.panicking [{ v := v', recovered := false }])
  | done {v v' : Value} (h : VRel μ v v') : MRel μ (.done v) (.panicking [{ v := v', recovered := true }])

theorem MRel.mono {μ μ' : Mu} (h : μ.le μ') {m : MS} {u : FrameMode} (r : MRel μ m u) : MRel μ' m u := by
  cases r with
  | calm => exact .calm
  | pend h' => exact .pend (h'.mono h)
  | done h' => exact .done (h'.mono h)

abbrev DPost := AEnd → MS → Heap → Nat → Prop

def ACallD (P : Program) (f : FuncId) (args : Array Value) (m : MS) (h : Heap) (n : Nat) (Q : DPost) : Prop :=
  ∀ μ args' w u, ARel μ args args' → Rel P μ h n w → MRel μ m u →
    CallsD P f args' u w fun e u' w' => ∃ μ' h' n' r m', ERel μ' r e ∧ Rel P μ' h' n' w' ∧ Grow μ h w μ' h' w' ∧ n ≤ n' ∧ MRel μ' m' u' ∧ Q r m' h' n'

abbrev SPost := AExit → AAct → MS → Heap → Nat → Prop

def liftS (P : Program) (Q : SPost) (μ : Mu) (h : Heap) (n : Nat) (w : World) (c₀ : Frame) (cs : List Frame) : Exit → Act → List Frame → World → Prop := fun e a' cs' w' =>
  ∃ μ' x fr' h' n' m' u', XRel μ' x e ∧ FRel μ' fr' a' ∧ Rel P μ' h' n' w' ∧ Grow μ h w μ' h' w' ∧ n ≤ n' ∧ MRel μ' m' u' ∧ cs' = { c₀ with mode := u' } :: cs ∧ Q x fr' m' h' n'

def AWpS (P : Program) (c : Code) (Q : SPost) (fr : AAct) (m : MS) (h : Heap) (n : Nat) : Prop :=
  ∀ μ a w u (c₀ : Frame) (cs : List Frame), FRel μ fr a → Rel P μ h n w → MRel μ m u → c.wpS P (liftS P Q μ h n w c₀ cs) a ({ c₀ with mode := u } :: cs) w

section
variable {P : Program} {Q : SPost} {fr : AAct} {m : MS} {h : Heap} {n : Nat}

theorem AWpS.of_wp {c : Code} (q : AWp P c (fun x fr h n => Q x fr m h n) fr h n) : AWpS P c Q fr m h n := by
  intro μ a w u c₀ cs hf hr hm
  refine wpS_of_wp (wp_mono (q μ a w hf hr) ?_)
  rintro e a' w' ⟨μ', x, fr', h', n', hx, hf', hr', hg, hn, q'⟩
  exact ⟨μ', x, fr', h', n', m, u, hx, hf', hr', hg, hn, hm.mono hg.le, rfl, q'⟩

theorem wpS_mono {c : Code} {Q Q' : Exit → Act → List Frame → World → Prop} {a : Act} {cs : List Frame} {w : World} (q : c.wpS P Q a cs w) (hq : ∀ e a cs w, Q e a cs w → Q' e a cs w) : c.wpS P Q' a cs w :=
  fun b k hb hr => let ⟨e, a', cs', w', x, y⟩ := q b k hb hr; ⟨e, a', cs', w', hq _ _ _ _ x, y⟩

def thenS (next : AAct → MS → Heap → Nat → Prop) (Q : SPost) : SPost
  | .normal, a, m, h, n => next a m h n
  | e, a, m, h, n => Q e a m h n

theorem AWpS.seq {x y : Code} (q : AWpS P x (thenS (AWpS P y Q) Q) fr m h n) : AWpS P (.seq x y) Q fr m h n := by
  intro μ a w u c₀ cs hf hr hm
  refine wpS_seq (wpS_mono (q μ a w u c₀ cs hf hr hm) ?_)
  rintro e a1 cs1 w1 ⟨μ1, x1, fr1, h1, n1, m1, u1, hx1, hf1, hr1, hg1, hn1, hm1, rfl, q1⟩
  cases hx1 with
  | normal =>
    refine wpS_mono (q1 μ1 a1 w1 u1 c₀ cs hf1 hr1 hm1) ?_
    rintro e a2 cs2 w2 ⟨μ2, x2, fr2, h2, n2, m2, u2, hx2, hf2, hr2, hg2, hn2, hm2, rfl, q2⟩
    exact ⟨μ2, x2, fr2, h2, n2, m2, u2, hx2, hf2, hr2, hg1.trans hg2, Nat.le_trans hn1 hn2, hm2, rfl, q2⟩
  | exit id => exact ⟨μ1, _, fr1, h1, n1, m1, u1, .exit id, hf1, hr1, hg1, hn1, hm1, rfl, q1⟩
  | goto l => exact ⟨μ1, _, fr1, h1, n1, m1, u1, .goto l, hf1, hr1, hg1, hn1, hm1, rfl, q1⟩
  | ret => exact ⟨μ1, _, fr1, h1, n1, m1, u1, .ret, hf1, hr1, hg1, hn1, hm1, rfl, q1⟩
  | pan hv => exact ⟨μ1, _, fr1, h1, n1, m1, u1, .pan hv, hf1, hr1, hg1, hn1, hm1, rfl, q1⟩

/-- What recover tells, and how it stands then. -/
def recoverE : MS → Value × MS
  | .calm => (.nilIface, .calm)
  | .pend v => (v, .done v)
  | .done v => (.nilIface, .done v)

def isRecover (o : Oper) : Bool := match o.op with
  | .call c => (match c.callee with | .builtin .recover => true | _ => false) && o.guard.isNone
  | _ => false

theorem AWpS.recover {id : Nat} {o : Oper} (ho : isRecover o = true) (q : Q .normal (fr.put o.dst (recoverE m).1) (recoverE m).2 h n) : AWpS P (.region id #[o] false) Q fr m h n := by
  intro μ a w u c₀ cs hf hr hm
  refine wpS_region ?_
  have hop : ∀ ρ, (execOp ρ o).run P w = .ok .recover w := by
    intro ρ
    obtain ⟨dst, op, ty, pos, after, guard⟩ := o
    unfold isRecover at ho
    cases op <;> simp only at ho <;> (try (cases ho; done))
    rename_i c
    cases hc : c.callee with
    | value f => rw [hc] at ho; simp at ho
    | invoke r s => rw [hc] at ho; simp at ho
    | builtin b =>
      rw [hc] at ho
      cases b <;> simp at ho
      simp [execOp, resolve, hc, invoke, builtin]
  have hg : Region.wanted o (yielded #[o] a.tmps) = true := by
    unfold isRecover at ho
    unfold Region.wanted
    cases hg : o.guard with
    | none => rfl
    | some g =>
      rw [hg] at ho
      split at ho
      · simp at ho
      · cases ho
  have hrange : List.range (#[o] : Array Oper).size = [0] := rfl
  rw [hrange]
  unfold wpOpsS
  simp only [List.getElem?_toArray, List.getElem?_cons_zero, hg, if_true, hop]
  cases hm with
  | calm =>
    simp only [recoverD, wpOpsS]
    exact ⟨μ, _, _, h, n, _, _, .normal, hf.put _ .nilIface, hr, .refl _ _ _, Nat.le_refl _, .calm, rfl, q⟩
  | pend hv =>
    simp only [recoverD, wpOpsS]
    exact ⟨μ, _, _, h, n, _, _, .normal, hf.put _ hv, hr, .refl _ _ _, Nat.le_refl _, .done hv, rfl, q⟩
  | done hv =>
    simp only [recoverD, wpOpsS]
    exact ⟨μ, _, _, h, n, _, _, .normal, hf.put _ .nilIface, hr, .refl _ _ _, Nat.le_refl _, .done hv, rfl, q⟩
end

def bodyS (P : Program) (fn : Func) (R : DPost) : SPost
  | .normal, fr, m, h, n | .ret, fr, m, h, n => fr.defers = [] ∧ ∃ vs, resultsE P fr h fn.results.toList = some vs ∧ R (.ret (tupleE vs)) m h n
  | .pan v, fr, m, h, n => fr.defers = [] ∧ R (.pan v) m h n
  | _, _, _, _, _ => False

theorem defers_nil {μ : Mu} {fr : AAct} {a : Act} (hf : FRel μ fr a) (h0 : fr.defers = []) : a.defers = [] := by
  have := hf.defers
  rw [h0] at this
  generalize a.defers = z at this
  cases this; rfl

theorem ACallD.of_body {P : Program} {f : FuncId} {fn : Func} {c : Code} {args : List Value} {m : MS} {h : Heap} {n : Nat} {R : DPost}
    (hf : P.funcs[f]? = some fn) (hb : fn.body = some c) (q : AWpS P c (bodyS P fn R) (frameOf args fn.ntmps) m h n) : ACallD P f args.toArray m h n R := by
  intro μ args' w u ha hr hm
  have ha' : LRel μ args args'.toList := by have := ha.list; simpa using this
  have hfr := frameOf_rel ha' fn.ntmps
  rw [Array.toArray_toList] at hfr
  refine callsD_of_wpS hf hb ?_
  intro c₀ cs hu
  have hc : ({ c₀ with mode := u } : Frame) = c₀ := by subst hu; rfl
  have hq := q μ _ w u c₀ cs hfr hr hm
  rw [hc] at hq
  refine wpS_mono hq ?_
  rintro e a' cs' w' ⟨μ', x, fr', h', n', m', u', hx, hf', hr', hg, hn, hm', rfl, q'⟩
  cases hx with
  | normal =>
    obtain ⟨q1, vs, q2, q3⟩ := q'
    obtain ⟨v', p1, p2⟩ := results_rel hf' hr' q2
    exact ⟨defers_nil hf' q1, u', rfl, v', p1, μ', h', n', _, m', .ret p2, hr', hg, hn, hm', q3⟩
  | ret =>
    obtain ⟨q1, vs, q2, q3⟩ := q'
    obtain ⟨v', p1, p2⟩ := results_rel hf' hr' q2
    exact ⟨defers_nil hf' q1, u', rfl, v', p1, μ', h', n', _, m', .ret p2, hr', hg, hn, hm', q3⟩
  | pan hv => exact ⟨defers_nil hf' q'.1, u', rfl, μ', h', n', _, m', .pan hv, hr', hg, hn, hm', q'.2⟩
  | exit id => exact q'.elim
  | goto l => exact q'.elim

/-- What is left of a function whose body is through: its deferred calls. -/
def leavesA (P : Program) (fn : Func) (fr : AAct) (R : AEnd → Heap → Nat → Prop) : List Deferred → MS → Heap → Nat → Prop
  | [], .calm, h, n => ∃ vs, resultsE P fr h fn.results.toList = some vs ∧ R (.ret (tupleE vs)) h n
  | [], .pend v, h, n => R (.pan v) h n
  | [], .done _, _, _ => False
  | d :: ds, m, h, n => match d.target with
    | .fn (.func f) cap => ((P.funcs[f]?).bind (·.body)).isSome = true ∧ ACallD P f (d.args.toList ++ cap.toList).toArray m h n fun r m' h' n' => match r with
      | .ret _ => leavesA P fn fr R ds (match m' with | .done _ => .calm | x => x) h' n'
      | .pan _ => False
    | _ => False

def bodyAD (P : Program) (fn : Func) (R : AEnd → Heap → Nat → Prop) : APost
  | .normal, fr, h, n | .ret, fr, h, n => leavesA P fn fr R fr.defers .calm h n
  | .pan v, fr, h, n => leavesA P fn fr R fr.defers (.pend v) h n
  | _, _, _, _ => False

theorem resultsE_defers {P : Program} {fr : AAct} {ds : List Deferred} {h : Heap} : ∀ {rs : List ResultVar} {vs : List Value}, resultsE P fr h rs = some vs → resultsE P ({ fr with defers := ds } : AAct) h rs = some vs := by
  intro rs
  induction rs with
  | nil => intro vs e; exact e
  | cons r rs ih =>
    intro vs e
    simp only [resultsE] at e ⊢
    have h1 : resultE P ({ fr with defers := ds } : AAct) h r = resultE P fr h r := by cases r <;> rfl
    rw [h1]
    split at e
    · rename_i v vs0 e1 e2
      rw [e1, ih e2]; exact e
    · cases e

theorem leaves_sound {P : Program} (ok : POk P) {fn : Func} {fr : AAct} {R : AEnd → Heap → Nat → Prop} {μ0 : Mu} {h0 : Heap} {n0 : Nat} {w0 : World} {a : Act} : ∀ (ds : List Deferred) (ds' : List Deferred) (m : MS) (u : FrameMode) (μ : Mu) (h : Heap) (n : Nat) (w : World),
    DsRel μ ds ds' → FRel μ ({ fr with defers := [] } : AAct) ({ a with defers := [] } : Act) → MRel μ m u → Rel P μ h n w → Grow μ0 h0 w0 μ h w → n0 ≤ n → leavesA P fn fr R ds m h n →
    Leaves P fn a.tmps (fun e w' => ∃ μ' h' n' r, ERel μ' r e ∧ Rel P μ' h' n' w' ∧ Grow μ0 h0 w0 μ' h' w' ∧ n0 ≤ n' ∧ R r h' n') ds' u w := by
  intro ds
  induction ds with
  | nil =>
    intro ds' m u μ h n w hds hf hm hr hg hn q
    cases hds
    cases hm with
    | calm =>
      obtain ⟨vs, q2, q3⟩ := q
      obtain ⟨v', p1, p2⟩ := results_rel hf hr (show resultsE P ({ fr with defers := [] } : AAct) h fn.results.toList = some vs from resultsE_defers q2)
      exact ⟨v', p1, μ, h, n, _, .ret p2, hr, hg, hn, q3⟩
    | pend hv => exact ⟨μ, h, n, _, .pan hv, hr, hg, hn, q⟩
    | done hv => exact q.elim
  | cons d ds ih =>
    intro ds' m u μ h n w hds hf hm hr hg hn q
    cases hds with
    | cons hd ht =>
      rename_i d' ds'
      simp only [leavesA] at q
      obtain ⟨tgt, dargs⟩ := d
      obtain ⟨tgt', dargs'⟩ := d'
      obtain ⟨htgt, hargs⟩ := hd
      simp only at htgt hargs q
      cases htgt with
      | fn fv hcap =>
        rename_i cap cap'
        cases fv with
        | func f =>
          simp only at q
          obtain ⟨hbody, q⟩ := q
          have hrel : ARel μ (dargs.toList ++ cap.toList).toArray (dargs' ++ cap') := by
            have := (hargs.list.append hcap.list).arr
            have e : (dargs'.toList ++ cap'.toList).toArray = dargs' ++ cap' := by apply Array.ext'; simp
            rw [e] at this; exact this
          have hfn : ∃ fn', P.funcs[f]? = some fn' ∧ fn'.body.isNone = false := by
            cases hx : P.funcs[f]? with
            | none => rw [hx] at hbody; simp at hbody
            | some fn' =>
              rw [hx] at hbody
              refine ⟨fn', rfl, ?_⟩
              cases hy : fn'.body <;> simp_all
          obtain ⟨fn', hfn, hnb⟩ := hfn
          have hinv : (invoke (.fn (.func f) cap') dargs').run P w = .ok (.enter f (dargs' ++ cap')) w := by
            have hnm := ok.named f fn' hfn
            simp only [invoke, callFunc, Sem.run_bind, run_program, Result.andThen_ok, hfn, hnm, Bool.false_eq_true, if_false, hnb, Sem.run_pure]
          refine leaves_cons (by cases hm <;> simp) hinv ((q μ _ w u hrel hr hm).mono ?_)
          rintro e u' w' ⟨μ', h', n', r, m', he, hr', hg', hn', hm', q'⟩
          cases he with
          | ret hv =>
            simp only at q' ⊢
            refine ih ds' _ _ μ' h' n' w' (ht.mono hg'.le) (hf.mono hg'.le) ?_ hr' (hg.trans hg') (Nat.le_trans hn hn') q'
            cases hm' with
            | calm => exact .calm
            | pend hv => exact .pend hv
            | done hv => exact .calm
          | pan hv => exact q'.elim
        | _ => exact q.elim
      | nil => exact q.elim
      | builtin => exact q.elim

theorem ACall.of_body_defers {P : Program} (ok : POk P) {f : FuncId} {fn : Func} {c : Code} {args : List Value} {h : Heap} {n : Nat} {R : AEnd → Heap → Nat → Prop}
    (hf : P.funcs[f]? = some fn) (hb : fn.body = some c) (q : AWp P c (bodyAD P fn R) (frameOf args fn.ntmps) h n) : ACall P f args.toArray h n R := by
  intro μ args' w ha hr
  have ha' : LRel μ args args'.toList := by have := ha.list; simpa using this
  have hfr := frameOf_rel ha' fn.ntmps
  rw [Array.toArray_toList] at hfr
  refine calls_of_wp_defers hf hb (wp_mono (q μ _ w hfr hr) ?_)
  rintro e a' w' ⟨μ', x, fr', h', n', hx, hf', hr', hg, hn, q'⟩
  have hf0 : FRel μ' ({ fr' with defers := [] } : AAct) ({ a' with defers := [] } : Act) := ⟨hf'.size, hf'.get, .nil⟩
  cases hx with
  | normal => exact leaves_sound ok _ _ _ _ _ _ _ _ hf'.defers hf0 .calm hr' hg hn q'
  | ret => exact leaves_sound ok _ _ _ _ _ _ _ _ hf'.defers hf0 .calm hr' hg hn q'
  | pan hv => exact leaves_sound ok _ _ _ _ _ _ _ _ hf'.defers hf0 (.pend hv) hr' hg hn q'
  | exit id => exact q'.elim
  | goto l => exact q'.elim
end Go.Abs
