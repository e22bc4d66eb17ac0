/- The evaluator tells the truth of codes, functions, calls. -/
import Derived.Test.YtkpjfibpaojelaaGreatDoorAbs23
namespace Go.Abs
open Go

theorem PanExt.then {S : List Nat} {Q : APost} {next : AAct → Heap → Nat → Prop} (h : PanExt S Q) : PanExt S (AExit.then next Q) := h
theorem PanExt.inBlock {S : List Nat} {Q : APost} {id : Nat} (h : PanExt S Q) : PanExt S (AExit.inBlock id Q) := h

theorem PanExt.noGoto {S : List Nat} {Q : APost} (h : PanExt S Q) : PanExt S (noGoto Q) := h

theorem evalCode_sound {P : Program} (ok : POk P) {S : List Nat} {plans : Nat → Option (List Nat)} {call : CallE} (hc : CallOk P call) : ∀ (k : Nat) (c : Code) (fr : AAct) (h : Heap) (n : Nat) (x : AExit) (fr' : AAct) (h' : Heap) (n' : Nat),
    (∀ r ∈ drawn c, planFits P plans r = true ∧ avoids S r.2 = true) → evalCode P plans call k c fr h n = some ((x, fr'), h', n') → ∀ Q : APost, PanExt S Q → Q x fr' h' n' → AWp P c Q fr h n := by
  intro k
  induction k using Nat.strongRecOn with
  | _ k ih =>
    intro c fr h n x fr' h' n' hd e Q hQ q
    cases k with
    | zero => simp [evalCode] at e
    | succ k =>
      have ihk := ih k (Nat.lt_succ_self k)
      cases c with
      | skip => simp only [evalCode, Option.some.injEq, Prod.mk.injEq] at e; obtain ⟨⟨rfl, rfl⟩, rfl, rfl⟩ := e; exact .skip q
      | label l => simp only [evalCode, Option.some.injEq, Prod.mk.injEq] at e; obtain ⟨⟨rfl, rfl⟩, rfl, rfl⟩ := e; exact .label q
      | exit id => simp only [evalCode, Option.some.injEq, Prod.mk.injEq] at e; obtain ⟨⟨rfl, rfl⟩, rfl, rfl⟩ := e; exact .exit q
      | ret => simp only [evalCode, Option.some.injEq, Prod.mk.injEq] at e; obtain ⟨⟨rfl, rfl⟩, rfl, rfl⟩ := e; exact .ret q
      | seq a b =>
        simp only [evalCode] at e
        have ha : ∀ r ∈ drawn a, planFits P plans r = true ∧ avoids S r.2 = true := fun r hr => hd r (by simp [drawn, hr])
        have hb : ∀ r ∈ drawn b, planFits P plans r = true ∧ avoids S r.2 = true := fun r hr => hd r (by simp [drawn, hr])
        split at e
        · rename_i fr1 h1 n1 ea
          exact .seq (ihk a fr h n .normal fr1 h1 n1 ha ea _ hQ.then (ihk b fr1 h1 n1 x fr' h' n' hb e Q hQ q))
        · rename_i hne
          refine .seq (ihk a fr h n x fr' h' n' ha e _ hQ.then ?_)
          cases x with
          | normal => exact (hne _ _ _ e).elim
          | _ => exact q
      | cond c a b =>
        simp only [evalCode] at e
        split at e
        · rename_i ho
          split at e
          · rename_i t ht
            refine .cond ho ht (ihk _ fr h n x fr' h' n' ?_ e Q hQ q)
            intro r hr
            refine hd r ?_
            cases t <;> simp_all [drawn]
          · cases e
        · cases e
      | block id a =>
        simp only [evalCode] at e
        have ha : ∀ r ∈ drawn a, planFits P plans r = true ∧ avoids S r.2 = true := fun r hr => hd r (by simpa [drawn] using hr)
        split at e
        · rename_i id' fr1 h1 n1 ea
          refine .block (ihk a fr h n (.exit id') fr1 h1 n1 ha ea _ hQ.inBlock ?_)
          simp only [AExit.inBlock]
          split at e
          · rename_i hid
            simp only [Option.some.injEq, Prod.mk.injEq] at e; obtain ⟨⟨rfl, rfl⟩, rfl, rfl⟩ := e
            rw [if_pos hid]; exact q
          · rename_i hid
            simp only [Option.some.injEq, Prod.mk.injEq] at e; obtain ⟨⟨rfl, rfl⟩, rfl, rfl⟩ := e
            rw [if_neg hid]; exact q
        · rename_i hne
          refine .block (ihk a fr h n x fr' h' n' ha e _ hQ.inBlock ?_)
          cases x with
          | exit id' => exact (hne _ _ _ _ e).elim
          | _ => exact q
      | loop a =>
        have ha : ∀ r ∈ drawn a, planFits P plans r = true ∧ avoids S r.2 = true := fun r hr => hd r (by simpa [drawn] using hr)
        refine AWp.loop (fun d fr h n => d ≤ k + 1 ∧ evalCode P plans call d (.loop a) fr h n = some ((x, fr'), h', n')) (k + 1) ⟨Nat.le_refl _, e⟩ ?_
        rintro d fr1 h1 n1 ⟨hdk, ed⟩
        cases d with
        | zero => simp [evalCode] at ed
        | succ d =>
          simp only [evalCode] at ed
          have ihd := ih d (by omega)
          split at ed
          · rename_i fr2 h2 n2 ea
            exact ihd a fr1 h1 n1 .normal fr2 h2 n2 ha ea _ hQ.then ⟨d, Nat.lt_succ_self d, by omega, ed⟩
          · rename_i hne
            refine ihd a fr1 h1 n1 x fr' h' n' ha ed _ hQ.then ?_
            cases x with
            | normal => exact (hne _ _ _ ed).elim
            | _ => exact q
      | scope a =>
        simp only [evalCode] at e
        have ha : ∀ r ∈ drawn a, planFits P plans r = true ∧ avoids S r.2 = true := fun r hr => hd r (by simpa [drawn] using hr)
        split at e
        · cases e
        · rename_i hne
          refine .scope (ihk a fr h n x fr' h' n' ha e _ hQ.noGoto ?_)
          cases x with
          | goto l => exact (hne _ _ _ _ e).elim
          | _ => exact q
      | region id ops dr =>
        cases dr with
        | false =>
          simp only [evalCode] at e
          have hs := runSeq_sound hc (Q := Q) e q
          have := AWp.seq_region (P := P) ok (id := id) (l := ops.toList) (Q := Q) (fr := fr) (h := h) (n := n) (by simpa using hs)
          simpa using this
        | true =>
          simp only [evalCode] at e
          obtain ⟨hf, hav⟩ := hd (id, ops) (by simp [drawn])
          unfold planFits at hf
          split at e
          · rename_i plan hp
            rw [hp] at hf
            simp only [Bool.and_eq_true, beq_iff_eq] at hf
            exact AWp.draw_region ok plan hf.1.1 hf.1.2 hf.2 hav hQ (runDraw_sound hc (inv := []) e q)
          · cases e
      | _ => simp [evalCode] at e

/-! Deferred functions. -/
def evalS (P : Program) (plans : Nat → Option (List Nat)) (call : CallE) (cf : Nat) : Nat → Code → AAct → MS → Heap → Nat → Option ((AExit × AAct × MS) × Heap × Nat)
  | 0, _, _, _, _, _ => none
  | k + 1, c, fr, m, h, n => match c with
    | .seq (.region id ops false) b => match ops.toList with
      | [o] => if isRecover o then evalS P plans call cf k b (fr.put o.dst (recoverE m).1) (recoverE m).2 h n
        else match evalCode P plans call cf (.region id ops false) fr h n with
          | some ((.normal, fr'), h', n') => evalS P plans call cf k b fr' m h' n'
          | some ((x, fr'), h', n') => some ((x, fr', m), h', n')
          | none => none
      | _ => match evalCode P plans call cf (.region id ops false) fr h n with
          | some ((.normal, fr'), h', n') => evalS P plans call cf k b fr' m h' n'
          | some ((x, fr'), h', n') => some ((x, fr', m), h', n')
          | none => none
    | c => match evalCode P plans call cf c fr h n with
      | some ((x, fr'), h', n') => some ((x, fr', m), h', n')
      | none => none

def PanExtS (Q : SPost) : Prop := ∀ x fr fr' m h n, fr.defers = fr'.defers → Q (.pan x) fr m h n → Q (.pan x) fr' m h n

theorem avoids_nil (ops : Array Oper) : avoids [] ops = true := by
  unfold avoids
  rw [List.all_eq_true]
  intro o _
  cases o.dst <;> rfl

theorem evalS_sound {P : Program} (ok : POk P) {plans : Nat → Option (List Nat)} {call : CallE} (hc : CallOk P call) {cf : Nat} : ∀ (k : Nat) (c : Code) (fr : AAct) (m : MS) (h : Heap) (n : Nat) (x : AExit) (fr' : AAct) (m' : MS) (h' : Heap) (n' : Nat),
    (∀ r ∈ drawn c, planFits P plans r = true) → evalS P plans call cf k c fr m h n = some ((x, fr', m'), h', n') → ∀ Q : SPost, PanExtS Q → Q x fr' m' h' n' → AWpS P c Q fr m h n := by
  have base : ∀ (c : Code) (fr : AAct) (m : MS) (h : Heap) (n : Nat) (x : AExit) (fr' : AAct) (h' : Heap) (n' : Nat), (∀ r ∈ drawn c, planFits P plans r = true) →
      evalCode P plans call cf c fr h n = some ((x, fr'), h', n') → ∀ Q : SPost, PanExtS Q → Q x fr' m h' n' → AWpS P c Q fr m h n := by
    intro c fr m h n x fr' h' n' hd e Q hQ q
    exact AWpS.of_wp (evalCode_sound ok (S := []) hc cf c fr h n x fr' h' n' (fun r hr => ⟨hd r hr, avoids_nil _⟩) e _ (fun y f1 f2 h n e _ q => hQ y f1 f2 m h n e q) q)
  intro k
  induction k with
  | zero => intro c fr m h n x fr' m' h' n' _ e; simp [evalS] at e
  | succ k ih =>
    intro c fr m h n x fr' m' h' n' hd e Q hQ q
    have step : ∀ (a b : Code), (∀ r ∈ drawn a, planFits P plans r = true) → (∀ r ∈ drawn b, planFits P plans r = true) → (match evalCode P plans call cf a fr h n with
          | some ((.normal, fr'), h', n') => evalS P plans call cf k b fr' m h' n'
          | some ((x, fr'), h', n') => some ((x, fr', m), h', n')
          | none => none) = some ((x, fr', m'), h', n') → AWpS P (.seq a b) Q fr m h n := by
      intro a b ha hb e
      split at e
      · rename_i fr1 h1 n1 ea
        exact AWpS.seq (base a fr m h n .normal fr1 h1 n1 ha ea _ (fun y f1 f2 m h n e q => hQ y f1 f2 m h n e q) (ih b fr1 m h1 n1 x fr' m' h' n' hb e Q hQ q))
      · rename_i x1 fr1 h1 n1 hne ea
        simp only [Option.some.injEq, Prod.mk.injEq] at e
        obtain ⟨⟨rfl, rfl, rfl⟩, rfl, rfl⟩ := e
        refine AWpS.seq (base a fr m h n x1 fr1 h1 n1 ha ea _ (fun y f1 f2 m h n e q => hQ y f1 f2 m h n e q) ?_)
        cases x1 with
        | normal => exact (hne rfl).elim
        | _ => exact q
      · cases e
    unfold evalS at e
    split at e
    · rename_i id ops b
      have hb : ∀ r ∈ drawn b, planFits P plans r = true := fun r hr => hd r (by simp [drawn, hr])
      have ha : ∀ r ∈ drawn (.region id ops false), planFits P plans r = true := fun r hr => by simp [drawn] at hr
      split at e
      · rename_i o ho
        split at e
        · rename_i hrec
          have hops : ops = #[o] := by apply Array.ext'; simpa using ho
          subst hops
          exact AWpS.seq (AWpS.recover hrec (ih b _ _ h n x fr' m' h' n' hb e Q hQ q))
        · exact step _ b ha hb e
      · exact step _ b ha hb e
    · split at e
      · rename_i x1 fr1 h1 n1 ea
        simp only [Option.some.injEq, Prod.mk.injEq] at e
        obtain ⟨⟨rfl, rfl, rfl⟩, rfl, rfl⟩ := e
        exact base c fr m h n x1 fr1 h1 n1 hd ea Q hQ q
      · cases e

/-- A deferred call. -/
def evalD (P : Program) (plans : Nat → Nat → Option (List Nat)) (call : CallE) (cf : Nat) (f : FuncId) (args : List Value) (m : MS) (h : Heap) (n : Nat) : Option (MS × Heap × Nat) :=
  match P.funcs[f]? with
  | some fn => match fn.body with
    | some c => match evalS P (plans f) call cf 100 c (frameOf args fn.ntmps) m h n with
      | some ((x, fr, m'), h', n') =>
        if fr.defers.isEmpty then
          match x with
          | .normal | .ret => match resultsE P fr h' fn.results.toList with
            | some _ => some (m', h', n')
            | none => none
          | _ => none
        else none
      | none => none
    | none => none
  | none => none

def PlansOk (P : Program) (plans : Nat → Nat → Option (List Nat)) : Prop := ∀ f fn c, P.funcs[f]? = some fn → fn.body = some c → ∀ r ∈ drawn c, planFits P (plans f) r = true

theorem evalD_sound {P : Program} (ok : POk P) {plans : Nat → Nat → Option (List Nat)} (hp : PlansOk P plans) {call : CallE} (hc : CallOk P call) {cf : Nat} {f : FuncId} {args : List Value} {m : MS} {h : Heap} {n : Nat} {m' : MS} {h' : Heap} {n' : Nat}
    (e : evalD P plans call cf f args m h n = some (m', h', n')) {Q : DPost} (q : ∀ v, Q (.ret v) m' h' n') : ((P.funcs[f]?).bind (·.body)).isSome = true ∧ ACallD P f args.toArray m h n Q := by
  unfold evalD at e
  split at e
  · rename_i fn hfn
    split at e
    · rename_i c hb
      refine ⟨by simp [hfn, hb], ?_⟩
      split at e
      · rename_i x fr m1 h1 n1 es
        split at e
        · rename_i hde
          have hd0 : fr.defers = [] := by simpa using hde
          refine ACallD.of_body hfn hb (evalS_sound ok hc _ _ _ _ _ _ _ _ _ _ _ (hp f fn c hfn hb) es _ ?_ ?_)
          · intro y f1 f2 m h n e q; exact ⟨e ▸ q.1, q.2⟩
          · split at e
            · split at e
              · rename_i vs hvs
                simp only [Option.some.injEq, Prod.mk.injEq] at e
                obtain ⟨rfl, rfl, rfl⟩ := e
                exact ⟨hd0, vs, hvs, q _⟩
              · cases e
            · split at e
              · rename_i vs hvs
                simp only [Option.some.injEq, Prod.mk.injEq] at e
                obtain ⟨rfl, rfl, rfl⟩ := e
                exact ⟨hd0, vs, hvs, q _⟩
              · cases e
            · cases e
        · cases e
      · cases e
    · cases e
  · cases e

def runLeaves (P : Program) (plans : Nat → Nat → Option (List Nat)) (call : CallE) (cf : Nat) (fn : Func) (fr : AAct) : List Deferred → MS → Heap → Nat → Option (AEnd × Heap × Nat)
  | [], .calm, h, n => match resultsE P fr h fn.results.toList with
    | some vs => some (.ret (tupleE vs), h, n)
    | none => none
  | [], .pend v, h, n => some (.pan v, h, n)
  | [], .done _, _, _ => none
  | d :: ds, m, h, n => match d.target with
    | .fn (.func f) cap => match evalD P plans call cf f (d.args.toList ++ cap.toList) m h n with
      | some (m', h', n') => runLeaves P plans call cf fn fr ds (match m' with | .done _ => .calm | x => x) h' n'
      | none => none
    | _ => none

theorem runLeaves_sound {P : Program} (ok : POk P) {plans : Nat → Nat → Option (List Nat)} (hp : PlansOk P plans) {call : CallE} (hc : CallOk P call) {cf : Nat} {fn : Func} {fr : AAct} {R : AEnd → Heap → Nat → Prop} : ∀ {ds : List Deferred} {m : MS} {h : Heap} {n : Nat} {r : AEnd} {h' : Heap} {n' : Nat},
    runLeaves P plans call cf fn fr ds m h n = some (r, h', n') → R r h' n' → leavesA P fn fr R ds m h n := by
  intro ds
  induction ds with
  | nil =>
    intro m h n r h' n' e q
    cases m with
    | calm =>
      simp only [runLeaves] at e
      split at e
      · rename_i vs hvs
        simp only [Option.some.injEq, Prod.mk.injEq] at e
        obtain ⟨rfl, rfl, rfl⟩ := e
        exact ⟨vs, hvs, q⟩
      · cases e
    | pend v =>
      simp only [runLeaves, Option.some.injEq, Prod.mk.injEq] at e
      obtain ⟨rfl, rfl, rfl⟩ := e
      exact q
    | done v => simp [runLeaves] at e
  | cons d ds ih =>
    intro m h n r h' n' e q
    obtain ⟨tgt, dargs⟩ := d
    simp only [runLeaves] at e
    simp only [leavesA]
    cases tgt with
    | fn fv cap =>
      cases fv with
      | func f =>
        simp only at e ⊢
        split at e
        · rename_i m1 h1 n1 ed
          exact evalD_sound ok hp hc ed (fun v => ih e q)
        · cases e
      | _ => simp at e
    | _ => simp at e

/-- The slots out of which a function's results are told. -/
def slotsOf (fn : Func) : List Nat := fn.results.toList.map fun
  | .tmp t => t
  | .cell a _ => a

theorem resultsE_congr {P : Program} {fr fr' : AAct} {h : Heap} : ∀ {rs : List ResultVar}, (∀ t ∈ rs.map (fun | .tmp t => t | .cell a _ => a), fr.get t = fr'.get t) → resultsE P fr h rs = resultsE P fr' h rs := by
  intro rs
  induction rs with
  | nil => intro _; rfl
  | cons r rs ih =>
    intro he
    simp only [resultsE]
    have h1 : resultE P fr h r = resultE P fr' h r := by
      cases r with
      | tmp t => simp only [resultE]; rw [he t (by simp)]
      | cell a t => simp only [resultE]; rw [he a (by simp)]
    rw [h1, ih (fun t ht => he t (by simp at ht ⊢; exact .inr ht))]

theorem leavesA_congr {P : Program} {fn : Func} {fr fr' : AAct} {R : AEnd → Heap → Nat → Prop} (he : ∀ t ∈ slotsOf fn, fr.get t = fr'.get t) : ∀ {ds : List Deferred} {m : MS} {h : Heap} {n : Nat}, leavesA P fn fr R ds m h n → leavesA P fn fr' R ds m h n := by
  intro ds
  induction ds with
  | nil =>
    intro m h n q
    cases m with
    | calm => obtain ⟨vs, q1, q2⟩ := q; exact ⟨vs, by rw [← resultsE_congr he]; exact q1, q2⟩
    | pend v => exact q
    | done v => exact q
  | cons d ds ih =>
    intro m h n q
    simp only [leavesA] at q ⊢
    split
    · rename_i f cap hd
      rw [hd] at q
      simp only at q
      refine ⟨q.1, fun μ args' w u ha hr hm => (q.2 μ args' w u ha hr hm).mono ?_⟩
      rintro e u' w' ⟨μ', h', n', r, m', x1, x2, x3, x4, x5, q'⟩
      refine ⟨μ', h', n', r, m', x1, x2, x3, x4, x5, ?_⟩
      cases r with
      | ret v => exact ih q'
      | pan v => exact q'
    · rename_i hne
      split at q
      · rename_i f cap hd; exact (hne f cap hd).elim
      · exact q

theorem bodyAD_panExt {P : Program} {fn : Func} {R : AEnd → Heap → Nat → Prop} : PanExt (slotsOf fn) (bodyAD P fn R) := by
  intro x fr fr' h n e he q
  have q' : leavesA P fn fr R fr.defers (.pend x) h n := q
  show leavesA P fn fr' R fr'.defers (.pend x) h n
  rw [← e]
  exact leavesA_congr he q'

abbrev Ov := FuncId → Option (List Value → Heap → Nat → Option (AEnd × Heap × Nat))

def evalCall (P : Program) (plans : Nat → Nat → Option (List Nat)) (ov : Ov) (cf : Nat) : Nat → CallE
  | 0 => fun _ _ _ _ => none
  | k + 1 => fun f args h n => match (ov f).bind fun g => g args h n with
    | some x => some x
    | none => match P.funcs[f]? with
      | some fn => match fn.body with
        | some c => match evalCode P (plans f) (evalCall P plans ov cf k) cf c (frameOf args fn.ntmps) h n with
          | some ((x, fr), h', n') =>
            if fr.defers.isEmpty then match x with
              | .normal | .ret => match resultsE P fr h' fn.results.toList with
                | some vs => some (.ret (tupleE vs), h', n')
                | none => none
              | .pan v => some (.pan v, h', n')
              | _ => none
            else if (drawn c).all fun r => avoids (slotsOf fn) r.2 then match x with
              | .normal | .ret => runLeaves P plans (evalCall P plans ov cf k) cf fn fr fr.defers .calm h' n'
              | .pan v => runLeaves P plans (evalCall P plans ov cf k) cf fn fr fr.defers (.pend v) h' n'
              | _ => none
            else none
          | none => none
        | none => none
      | none => none

def OvOk (P : Program) (ov : Ov) : Prop := ∀ f g, ov f = some g → CallOk P (fun f' args h n => if f' = f then g args h n else none)

theorem evalCall_sound {P : Program} (ok : POk P) {plans : Nat → Nat → Option (List Nat)} (hp : PlansOk P plans) {ov : Ov} (ho : OvOk P ov) {cf : Nat} : ∀ k, CallOk P (evalCall P plans ov cf k) := by
  intro k
  induction k with
  | zero => intro f args h n r h' n' e; simp [evalCall] at e
  | succ k ih =>
    intro f args h n r h' n' e
    simp only [evalCall] at e
    split at e
    · rename_i x hx
      obtain ⟨g, hg, hx⟩ := Option.bind_eq_some_iff.1 hx
      cases e
      exact ho f g hg f args h n r h' n' (by simpa using hx)
    · split at e
      · rename_i fn hfn
        split at e
        · rename_i c hb
          split at e
          · rename_i x fr h1 n1 ec
            split at e
            · rename_i hde
              have hd0 : fr.defers = [] := by simpa using hde
              refine ACall.of_body hfn hb (evalCode_sound ok (S := []) ih cf c _ h n x fr h1 n1 (fun r hr => ⟨hp f fn c hfn hb r hr, avoids_nil _⟩) ec _ bodyA_panExt ?_)
              split at e
              · split at e
                · rename_i vs hvs
                  simp only [Option.some.injEq, Prod.mk.injEq] at e
                  obtain ⟨rfl, rfl, rfl⟩ := e
                  exact ⟨hd0, vs, hvs, rfl, rfl, rfl⟩
                · cases e
              · split at e
                · rename_i vs hvs
                  simp only [Option.some.injEq, Prod.mk.injEq] at e
                  obtain ⟨rfl, rfl, rfl⟩ := e
                  exact ⟨hd0, vs, hvs, rfl, rfl, rfl⟩
                · cases e
              · simp only [Option.some.injEq, Prod.mk.injEq] at e
                obtain ⟨rfl, rfl, rfl⟩ := e
                exact ⟨hd0, rfl, rfl, rfl⟩
              · cases e
            · split at e
              · rename_i hav
                refine ACall.of_body_defers ok hfn hb (evalCode_sound ok ih cf c _ h n x fr h1 n1 (fun r hr => ⟨hp f fn c hfn hb r hr, List.all_eq_true.1 hav r hr⟩) ec _ bodyAD_panExt ?_)
                split at e
                · exact runLeaves_sound ok hp ih e ⟨rfl, rfl, rfl⟩
                · exact runLeaves_sound ok hp ih e ⟨rfl, rfl, rfl⟩
                · exact runLeaves_sound ok hp ih e ⟨rfl, rfl, rfl⟩
                · cases e
              · cases e
          · cases e
        · cases e
      · cases e
end Go.Abs
