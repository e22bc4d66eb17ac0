/- texts of the claim, part 3: AbsD. -/
import Derived.Test.YtkpaklofdkjinaaDoorPa2
import Derived.Scope
set_option linter.unusedVariables false
set_option linter.unusedSimpArgs false
set_option linter.unusedSectionVars false
/- An evaluator for calls whose arguments are known, and that it tells the truth. -/
namespace Go.Abs
open Go
def noGoto (Q : APost) : APost
  | .goto _, _, _, _ => False
  | e, a, h, n => Q e a h n
theorem AWp.scope {P : Program} {Q : APost} {fr : AAct} {h : Heap} {n : Nat} {c : Code} (q : AWp P c (noGoto Q) fr h n) : AWp P (.scope c) Q fr h n := by
  intro μ a w hf hr
  refine wp_scope_straight (wp_mono (q μ a w hf hr) ?_)
  rintro e a1 w1 ⟨μ1, x1, fr1, h1, n1, hx1, hf1, hr1, hg1, hn1, q⟩
  cases hx1 with
  | normal => exact ⟨μ1, _, fr1, h1, n1, .normal, hf1, hr1, hg1, hn1, q⟩
  | exit id => exact ⟨μ1, _, fr1, h1, n1, .exit id, hf1, hr1, hg1, hn1, q⟩
  | goto l => exact q.elim
  | ret => exact ⟨μ1, _, fr1, h1, n1, .ret, hf1, hr1, hg1, hn1, q⟩
  | pan hv => exact ⟨μ1, _, fr1, h1, n1, .pan hv, hf1, hr1, hg1, hn1, q⟩
/-! Values held against each other. -/
def allEq (p : Value → Value → Bool) : List Value → List Value → Bool
  | [], [] => true
  | a :: x, b :: y => p a b && allEq p x y
  | _, _ => false
def valEq : Nat → Value → Value → Bool
  | _, .bool a, .bool b => a == b
  | _, .int j a, .int k b => j == k && a == b
  | _, .string a, .string b => a.data.toList == b.data.toList
  | _, .pointer a, .pointer b => a == b
  | _, .slice a l c, .slice b m d => a == b && l == m && c == d
  | _, .map a, .map b => a == b
  | _, .nilFunc, .nilFunc => true
  | _, .nilIface, .nilIface => true
  | n + 1, .iface t v, .iface u w => t == u && valEq n v w
  | n + 1, .agg a, .agg b => allEq (valEq n) a.toList b.toList
  | n + 1, .tuple a, .tuple b => allEq (valEq n) a.toList b.toList
  | n + 1, .func f a c, .func g b d => f == g && allEq (valEq n) a.toList b.toList && allEq (valEq n) c.toList d.toList
  | _, _, _ => false
theorem allEq_eq {p : Value → Value → Bool} (hp : ∀ a b, p a b = true → a = b) : ∀ {x y : List Value}, allEq p x y = true → x = y := by
  intro x
  induction x with
  | nil => intro y h; cases y with
    | nil => rfl
    | cons => simp [allEq] at h
  | cons a x ih =>
    intro y h
    cases y with
    | nil => simp [allEq] at h
    | cons b y => simp only [allEq, Bool.and_eq_true] at h; rw [hp _ _ h.1, ih h.2]
theorem valEq_eq : ∀ (n : Nat) (a b : Value), valEq n a b = true → a = b := by
  intro n
  induction n with
  | zero =>
    intro a b h
    cases a <;> cases b <;> simp [valEq] at h <;> (try rfl) <;> (try simp_all; done)
    · rename_i s t
      congr 1
      apply ByteArray.ext
      apply Array.ext'
      exact congrArg Array.toList h
  | succ n ih =>
    intro a b h
    cases a <;> cases b <;> simp [valEq] at h <;> (try rfl) <;> (try (simp_all; done))
    · rename_i s t
      congr 1
      apply ByteArray.ext
      apply Array.ext'
      exact congrArg Array.toList h
    · obtain ⟨⟨rfl, h1⟩, h2⟩ := h
      congr 1
      · exact Array.ext' (allEq_eq ih h1)
      · exact Array.ext' (allEq_eq ih h2)
    · obtain ⟨rfl, h1⟩ := h
      rw [ih _ _ h1]
    · congr 1
      exact Array.ext' (allEq_eq ih h)
    · congr 1
      exact Array.ext' (allEq_eq ih h)
abbrev CallE := FuncId → List Value → Heap → Nat → Option (AEnd × Heap × Nat)
inductive ORun where
  | go (fr : AAct) (h : Heap) (n : Nat)
  | pan (v : Value) (h : Heap) (n : Nat)
def runOp (P : Program) (call : CallE) (ops : Array Oper) (o : Oper) (fr : AAct) (h : Heap) (n : Nat) : Option ORun :=
  if wantedA ops o fr then
    if okOper P.globals.size o then
      match calmE P o fr.eval h with
      | some v => some (.go (fr.put o.dst v) h n)
      | none => match actE P o fr.eval h n with
        | some (.val v, h', n') => some (.go (fr.put o.dst v) h' n')
        | some (.skip, h', n') => some (.go (fr.put o.dst undef) h' n')
        | some (.ent f args, h', n') => match call f args h' n' with
          | some (.ret v, h'', n'') => some (.go (fr.put o.dst v) h'' n'')
          | some (.pan v, h'', n'') => some (.pan v h'' n'')
          | none => none
        | some (.dfr d, h', n') => some (.go (({ fr with defers := d :: fr.defers } : AAct).put o.dst undef) h' n')
        | some (.pan v, h', n') => some (.pan v h' n')
        | none => none
    else none
  else some (.go (fr.put o.dst undef) h n)
def CallOk (P : Program) (call : CallE) : Prop := ∀ f args h n r h' n', call f args h n = some (r, h', n') → ACall P f args.toArray h n fun r1 h1 n1 => r1 = r ∧ h1 = h' ∧ n1 = n'
theorem runOp_sound {P : Program} {call : CallE} (hc : CallOk P call) {ops : Array Oper} {o : Oper} {fr : AAct} {h : Heap} {n : Nat} {x : ORun} (e : runOp P call ops o fr h n = some x) {K : ANextK} {Qp : Value → Heap → Nat → Prop}
    (hk : match x with | .go fr' h' n' => K fr' h' n' | .pan v h' n' => Qp v h' n') : opW P (acall P) ops o fr h n K Qp := by
  unfold runOp at e
  unfold opW
  split at e
  · rename_i hw
    rw [if_pos hw]
    split at e
    · rename_i hok
      refine ⟨hok, ?_⟩
      split at e
      · rename_i v hv; rw [hv]; cases e; exact hk
      · rename_i hv
        rw [hv]
        simp only
        split at e
        · rename_i hx; rw [hx]; cases e; exact hk
        · rename_i hx; rw [hx]; cases e; exact hk
        · rename_i f args h' n' hx
          rw [hx]
          split at e
          · rename_i v h'' n'' hcall
            cases e
            refine (hc _ _ _ _ _ _ _ hcall).mono ?_
            rintro r h1 n1 _ _ ⟨rfl, rfl, rfl⟩
            exact ⟨_, Heap.sub_refl _, hk⟩
          · rename_i v h'' n'' hcall
            cases e
            refine (hc _ _ _ _ _ _ _ hcall).mono ?_
            rintro r h1 n1 _ _ ⟨rfl, rfl, rfl⟩
            exact ⟨_, Heap.sub_refl _, hk⟩
          · cases e
        · rename_i hx; rw [hx]; cases e; exact hk
        · rename_i hx; rw [hx]; cases e; exact hk
        · cases e
    · cases e
  · rename_i hw
    rw [if_neg hw]
    cases e
    exact hk
def runSeq (P : Program) (call : CallE) (ops : Array Oper) : List Oper → AAct → Heap → Nat → Option ((AExit × AAct) × Heap × Nat)
  | [], fr, h, n => some ((.normal, fr), h, n)
  | o :: rest, fr, h, n => match runOp P call ops o fr h n with
    | some (.go fr' h' n') => runSeq P call ops rest fr' h' n'
    | some (.pan v h' n') => some ((.pan v, fr), h', n')
    | none => none
theorem runSeq_sound {P : Program} {call : CallE} (hc : CallOk P call) {ops : Array Oper} {Q : APost} : ∀ {l : List Oper} {fr : AAct} {h : Heap} {n : Nat} {x : AExit} {fr' : AAct} {h' : Heap} {n' : Nat}, runSeq P call ops l fr h n = some ((x, fr'), h', n') → Q x fr' h' n' →
    seqW P (acall P) ops Q l fr h n := by
  intro l
  induction l with
  | nil => intro fr h n x fr' h' n' e q; simp only [runSeq, Option.some.injEq, Prod.mk.injEq] at e; obtain ⟨⟨rfl, rfl⟩, rfl, rfl⟩ := e; exact q
  | cons o rest ih =>
    intro fr h n x fr' h' n' e q
    simp only [runSeq] at e
    split at e
    · rename_i fr1 h1 n1 ho
      exact runOp_sound hc ho (ih e q)
    · rename_i v h1 n1 ho
      simp only [Option.some.injEq, Prod.mk.injEq] at e
      obtain ⟨⟨rfl, rfl⟩, rfl, rfl⟩ := e
      exact runOp_sound hc ho q
    · cases e
/-- What has been read, and must still read so. -/
structure Seen where
  at_ : Nat
  o : Oper
  fr : AAct
  v : Value
def runDraw (P : Program) (call : CallE) (ops : Array Oper) : List Nat → List Seen → AAct → Heap → Nat → Option ((AExit × AAct) × Heap × Nat)
  | [], _, fr, h, n => some ((.normal, fr), h, n)
  | i :: rest, inv, fr, h, n => match ops[i]? with
    | none => none
    | some o =>
      if kindOf P o = 0 then
        match runOp P call ops o fr h n with
        | some (.go fr' h' n') =>
          if (inv.filter fun x => !dep ops i x.at_).all fun x => match calmE P x.o x.fr.eval h' with | some v => valEq 20 v x.v | none => false then
            runDraw P call ops rest (inv.filter fun x => !dep ops i x.at_) fr' h' n'
          else none
        | some (.pan v h' n') => some ((.pan v, fr), h', n')
        | none => none
      else if wantedA ops o fr then
        if okOper P.globals.size o then
          match calmE P o fr.eval h with
          | some v => runDraw P call ops rest (if kindOf P o = 1 then inv else ⟨i, o, fr, v⟩ :: inv) (fr.put o.dst v) h n
          | none => none
        else none
      else runDraw P call ops rest inv (fr.put o.dst undef) h n
def seenInv (P : Program) (l : List Seen) : Inv := l.map fun x => (x.at_, fun h' => calmE P x.o x.fr.eval h' = some x.v)
theorem seenInv_filter (P : Program) (l : List Seen) (ops : Array Oper) (i : Nat) : (seenInv P l).filter (fun x => !dep ops i x.1) = seenInv P (l.filter fun x => !dep ops i x.at_) := by
  induction l with
  | nil => rfl
  | cons x l ih =>
    simp only [seenInv, List.map_cons, List.filter_cons] at ih ⊢
    split <;> simp_all
theorem runDraw_sound {P : Program} {call : CallE} (hc : CallOk P call) {ops : Array Oper} {Q : APost} : ∀ {plan : List Nat} {inv : List Seen} {fr : AAct} {h : Heap} {n : Nat} {x : AExit} {fr' : AAct} {h' : Heap} {n' : Nat}, runDraw P call ops plan inv fr h n = some ((x, fr'), h', n') → Q x fr' h' n' →
    drawW P (acall P) ops Q plan (seenInv P inv) fr h n := by
  intro plan
  induction plan with
  | nil => intro inv fr h n x fr' h' n' e q; simp only [runDraw, Option.some.injEq, Prod.mk.injEq] at e; obtain ⟨⟨rfl, rfl⟩, rfl, rfl⟩ := e; exact q
  | cons i rest ih =>
    intro inv fr h n x fr' h' n' e q
    simp only [runDraw] at e
    simp only [drawW]
    cases ho : ops[i]? with
    | none => rw [ho] at e; cases e
    | some o =>
      rw [ho] at e
      simp only at e ⊢
      split at e
      · rename_i hk
        rw [if_pos hk]
        split at e
        · rename_i fr1 h1 n1 hop
          split at e
          · rename_i hall
            refine runOp_sound hc hop ?_
            rw [seenInv_filter]
            refine ⟨?_, ih e q⟩
            intro y hy
            simp only [seenInv, List.mem_map] at hy
            obtain ⟨s, hs, rfl⟩ := hy
            have := List.all_eq_true.1 hall s hs
            simp only
            split at this
            · rename_i v hv; rw [hv, valEq_eq _ _ _ this]
            · cases this
          · cases e
        · rename_i v h1 n1 hop
          simp only [Option.some.injEq, Prod.mk.injEq] at e
          obtain ⟨⟨rfl, rfl⟩, rfl, rfl⟩ := e
          exact runOp_sound hc hop q
        · cases e
      · rename_i hk
        rw [if_neg hk]
        split at e
        · rename_i hw
          rw [if_pos hw]
          split at e
          · rename_i hok
            refine ⟨hok, ?_⟩
            split at e
            · rename_i v hv
              rw [hv]
              simp only
              by_cases hk1 : kindOf P o = 1
              · rw [if_pos hk1] at e ⊢; exact ih e q
              · rw [if_neg hk1] at e ⊢; exact ih (inv := ⟨i, o, fr, v⟩ :: inv) e q
            · cases e
          · cases e
        · rename_i hw
          rw [if_neg hw]
          exact ih e q
/-- The regions of a code that draw their order. -/
def drawn : Code → List (Nat × Array Oper)
  | .region id ops true => [(id, ops)]
  | .seq a b => drawn a ++ drawn b
  | .cond _ a b => drawn a ++ drawn b
  | .block _ a => drawn a
  | .loop a => drawn a
  | .scope a => drawn a
  | _ => []
def planFits (P : Program) (plans : Nat → Option (List Nat)) (r : Nat × Array Oper) : Bool :=
  match plans r.1 with
  | some plan => Region.noSelect r.2 && planOk P r.2 plan (Array.replicate r.2.size false) && plan.length == r.2.size
  | none => true
def evalCode (P : Program) (plans : Nat → Option (List Nat)) (call : CallE) : Nat → Code → AAct → Heap → Nat → Option ((AExit × AAct) × Heap × Nat)
  | 0, _, _, _, _ => none
  | k + 1, c, fr, h, n => match c with
    | .skip | .label _ => some ((.normal, fr), h, n)
    | .exit id => some ((.exit id, fr), h, n)
    | .ret => some ((.ret, fr), h, n)
    | .seq a b => match evalCode P plans call k a fr h n with
      | some ((.normal, fr'), h', n') => evalCode P plans call k b fr' h' n'
      | x => x
    | .cond c a b => if okOperand P.globals.size c then (match fr.eval c with
      | .bool t => evalCode P plans call k (if t then a else b) fr h n
      | _ => none) else none
    | .block id a => match evalCode P plans call k a fr h n with
      | some ((.exit id', fr'), h', n') => if id' = id then some ((.normal, fr'), h', n') else some ((.exit id', fr'), h', n')
      | x => x
    | .loop a => match evalCode P plans call k a fr h n with
      | some ((.normal, fr'), h', n') => evalCode P plans call k (.loop a) fr' h' n'
      | x => x
    | .scope a => match evalCode P plans call k a fr h n with
      | some ((.goto _, _), _, _) => none
      | x => x
    | .region _ ops false => runSeq P call ops ops.toList fr h n
    | .region id ops true => match plans id with
      | some plan => runDraw P call ops plan [] fr h n
      | none => none
    | _ => none
end Go.Abs
/- The evaluator tells the truth of codes, functions, calls. -/
namespace Go.Abs
open Go
theorem PanExt.then {S : List Nat} {Q : APost} {next : AAct → Heap → Nat → Prop} (h : PanExt S Q) : PanExt S (AExit.then next Q) := h
theorem PanExt.inBlock {S : List Nat} {Q : APost} {id : Nat} (h : PanExt S Q) : PanExt S (AExit.inBlock id Q) := h
theorem PanExt.noGoto {S : List Nat} {Q : APost} (h : PanExt S Q) : PanExt S (noGoto Q) := h
theorem evalCode_sound {P : Program} (ok : POk P) {S : List Nat} {plans : Nat → Option (List Nat)} {call : CallE} (hc : CallOk P call) : ∀ (k : Nat) (c : Code) (fr : AAct) (h : Heap) (n : Nat) (x : AExit) (fr' : AAct) (h' : Heap) (n' : Nat),
    (∀ r ∈ drawn c, planFits P plans r = true ∧ avoids S r.2 = true) → evalCode P plans call k c fr h n = some ((x, fr'), h', n') → ∀ Q : APost, PanExt S Q → Q x fr' h' n' → AWp P c Q fr h n := by
  intro k
  induction k using Nat.strongRecOn with
  | _ k ih =>
    intro c fr h n x fr' h' n' hd e Q hQ q
    cases k with
    | zero => simp [evalCode] at e
    | succ k =>
      have ihk := ih k (Nat.lt_succ_self k)
      cases c with
      | skip => simp only [evalCode, Option.some.injEq, Prod.mk.injEq] at e; obtain ⟨⟨rfl, rfl⟩, rfl, rfl⟩ := e; exact .skip q
      | label l => simp only [evalCode, Option.some.injEq, Prod.mk.injEq] at e; obtain ⟨⟨rfl, rfl⟩, rfl, rfl⟩ := e; exact .label q
      | exit id => simp only [evalCode, Option.some.injEq, Prod.mk.injEq] at e; obtain ⟨⟨rfl, rfl⟩, rfl, rfl⟩ := e; exact .exit q
      | ret => simp only [evalCode, Option.some.injEq, Prod.mk.injEq] at e; obtain ⟨⟨rfl, rfl⟩, rfl, rfl⟩ := e; exact .ret q
      | seq a b =>
        simp only [evalCode] at e
        have ha : ∀ r ∈ drawn a, planFits P plans r = true ∧ avoids S r.2 = true := fun r hr => hd r (by simp [drawn, hr])
        have hb : ∀ r ∈ drawn b, planFits P plans r = true ∧ avoids S r.2 = true := fun r hr => hd r (by simp [drawn, hr])
        split at e
        · rename_i fr1 h1 n1 ea
          exact .seq (ihk a fr h n .normal fr1 h1 n1 ha ea _ hQ.then (ihk b fr1 h1 n1 x fr' h' n' hb e Q hQ q))
        · rename_i hne
          refine .seq (ihk a fr h n x fr' h' n' ha e _ hQ.then ?_)
          cases x with
          | normal => exact (hne _ _ _ e).elim
          | _ => exact q
      | cond c a b =>
        simp only [evalCode] at e
        split at e
        · rename_i ho
          split at e
          · rename_i t ht
            refine .cond ho ht (ihk _ fr h n x fr' h' n' ?_ e Q hQ q)
            intro r hr
            refine hd r ?_
            cases t <;> simp_all [drawn]
          · cases e
        · cases e
      | block id a =>
        simp only [evalCode] at e
        have ha : ∀ r ∈ drawn a, planFits P plans r = true ∧ avoids S r.2 = true := fun r hr => hd r (by simpa [drawn] using hr)
        split at e
        · rename_i id' fr1 h1 n1 ea
          refine .block (ihk a fr h n (.exit id') fr1 h1 n1 ha ea _ hQ.inBlock ?_)
          simp only [AExit.inBlock]
          split at e
          · rename_i hid
            simp only [Option.some.injEq, Prod.mk.injEq] at e; obtain ⟨⟨rfl, rfl⟩, rfl, rfl⟩ := e
            rw [if_pos hid]; exact q
          · rename_i hid
            simp only [Option.some.injEq, Prod.mk.injEq] at e; obtain ⟨⟨rfl, rfl⟩, rfl, rfl⟩ := e
            rw [if_neg hid]; exact q
        · rename_i hne
          refine .block (ihk a fr h n x fr' h' n' ha e _ hQ.inBlock ?_)
          cases x with
          | exit id' => exact (hne _ _ _ _ e).elim
          | _ => exact q
      | loop a =>
        have ha : ∀ r ∈ drawn a, planFits P plans r = true ∧ avoids S r.2 = true := fun r hr => hd r (by simpa [drawn] using hr)
        refine AWp.loop (fun d fr h n => d ≤ k + 1 ∧ evalCode P plans call d (.loop a) fr h n = some ((x, fr'), h', n')) (k + 1) ⟨Nat.le_refl _, e⟩ ?_
        rintro d fr1 h1 n1 ⟨hdk, ed⟩
        cases d with
        | zero => simp [evalCode] at ed
        | succ d =>
          simp only [evalCode] at ed
          have ihd := ih d (by omega)
          split at ed
          · rename_i fr2 h2 n2 ea
            exact ihd a fr1 h1 n1 .normal fr2 h2 n2 ha ea _ hQ.then ⟨d, Nat.lt_succ_self d, by omega, ed⟩
          · rename_i hne
            refine ihd a fr1 h1 n1 x fr' h' n' ha ed _ hQ.then ?_
            cases x with
            | normal => exact (hne _ _ _ ed).elim
            | _ => exact q
      | scope a =>
        simp only [evalCode] at e
        have ha : ∀ r ∈ drawn a, planFits P plans r = true ∧ avoids S r.2 = true := fun r hr => hd r (by simpa [drawn] using hr)
        split at e
        · cases e
        · rename_i hne
          refine .scope (ihk a fr h n x fr' h' n' ha e _ hQ.noGoto ?_)
          cases x with
          | goto l => exact (hne _ _ _ _ e).elim
          | _ => exact q
      | region id ops dr =>
        cases dr with
        | false =>
          simp only [evalCode] at e
          have hs := runSeq_sound hc (Q := Q) e q
          have := AWp.seq_region (P := P) ok (id := id) (l := ops.toList) (Q := Q) (fr := fr) (h := h) (n := n) (by simpa using hs)
          simpa using this
        | true =>
          simp only [evalCode] at e
          obtain ⟨hf, hav⟩ := hd (id, ops) (by simp [drawn])
          unfold planFits at hf
          split at e
          · rename_i plan hp
            rw [hp] at hf
            simp only [Bool.and_eq_true, beq_iff_eq] at hf
            exact AWp.draw_region ok plan hf.1.1 hf.1.2 hf.2 hav hQ (runDraw_sound hc (inv := []) e q)
          · cases e
      | _ => simp [evalCode] at e
/-! Deferred functions. -/
def evalS (P : Program) (plans : Nat → Option (List Nat)) (call : CallE) (cf : Nat) : Nat → Code → AAct → MS → Heap → Nat → Option ((AExit × AAct × MS) × Heap × Nat)
  | 0, _, _, _, _, _ => none
  | k + 1, c, fr, m, h, n => match c with
    | .seq (.region id ops false) b => match ops.toList with
      | [o] => if isRecover o then evalS P plans call cf k b (fr.put o.dst (recoverE m).1) (recoverE m).2 h n
        else match evalCode P plans call cf (.region id ops false) fr h n with
          | some ((.normal, fr'), h', n') => evalS P plans call cf k b fr' m h' n'
          | some ((x, fr'), h', n') => some ((x, fr', m), h', n')
          | none => none
      | _ => match evalCode P plans call cf (.region id ops false) fr h n with
          | some ((.normal, fr'), h', n') => evalS P plans call cf k b fr' m h' n'
          | some ((x, fr'), h', n') => some ((x, fr', m), h', n')
          | none => none
    | c => match evalCode P plans call cf c fr h n with
      | some ((x, fr'), h', n') => some ((x, fr', m), h', n')
      | none => none
def PanExtS (Q : SPost) : Prop := ∀ x fr fr' m h n, fr.defers = fr'.defers → Q (.pan x) fr m h n → Q (.pan x) fr' m h n
theorem avoids_nil (ops : Array Oper) : avoids [] ops = true := by
  unfold avoids
  rw [List.all_eq_true]
  intro o _
  cases o.dst <;> rfl
theorem evalS_sound {P : Program} (ok : POk P) {plans : Nat → Option (List Nat)} {call : CallE} (hc : CallOk P call) {cf : Nat} : ∀ (k : Nat) (c : Code) (fr : AAct) (m : MS) (h : Heap) (n : Nat) (x : AExit) (fr' : AAct) (m' : MS) (h' : Heap) (n' : Nat),
    (∀ r ∈ drawn c, planFits P plans r = true) → evalS P plans call cf k c fr m h n = some ((x, fr', m'), h', n') → ∀ Q : SPost, PanExtS Q → Q x fr' m' h' n' → AWpS P c Q fr m h n := by
  have base : ∀ (c : Code) (fr : AAct) (m : MS) (h : Heap) (n : Nat) (x : AExit) (fr' : AAct) (h' : Heap) (n' : Nat), (∀ r ∈ drawn c, planFits P plans r = true) →
      evalCode P plans call cf c fr h n = some ((x, fr'), h', n') → ∀ Q : SPost, PanExtS Q → Q x fr' m h' n' → AWpS P c Q fr m h n := by
    intro c fr m h n x fr' h' n' hd e Q hQ q
    exact AWpS.of_wp (evalCode_sound ok (S := []) hc cf c fr h n x fr' h' n' (fun r hr => ⟨hd r hr, avoids_nil _⟩) e _ (fun y f1 f2 h n e _ q => hQ y f1 f2 m h n e q) q)
  intro k
  induction k with
  | zero => intro c fr m h n x fr' m' h' n' _ e; simp [evalS] at e
  | succ k ih =>
    intro c fr m h n x fr' m' h' n' hd e Q hQ q
    have step : ∀ (a b : Code), (∀ r ∈ drawn a, planFits P plans r = true) → (∀ r ∈ drawn b, planFits P plans r = true) → (match evalCode P plans call cf a fr h n with
          | some ((.normal, fr'), h', n') => evalS P plans call cf k b fr' m h' n'
          | some ((x, fr'), h', n') => some ((x, fr', m), h', n')
          | none => none) = some ((x, fr', m'), h', n') → AWpS P (.seq a b) Q fr m h n := by
      intro a b ha hb e
      split at e
      · rename_i fr1 h1 n1 ea
        exact AWpS.seq (base a fr m h n .normal fr1 h1 n1 ha ea _ (fun y f1 f2 m h n e q => hQ y f1 f2 m h n e q) (ih b fr1 m h1 n1 x fr' m' h' n' hb e Q hQ q))
      · rename_i x1 fr1 h1 n1 hne ea
        simp only [Option.some.injEq, Prod.mk.injEq] at e
        obtain ⟨⟨rfl, rfl, rfl⟩, rfl, rfl⟩ := e
        refine AWpS.seq (base a fr m h n x1 fr1 h1 n1 ha ea _ (fun y f1 f2 m h n e q => hQ y f1 f2 m h n e q) ?_)
        cases x1 with
        | normal => exact (hne rfl).elim
        | _ => exact q
      · cases e
    unfold evalS at e
    split at e
    · rename_i id ops b
      have hb : ∀ r ∈ drawn b, planFits P plans r = true := fun r hr => hd r (by simp [drawn, hr])
      have ha : ∀ r ∈ drawn (.region id ops false), planFits P plans r = true := fun r hr => by simp [drawn] at hr
      split at e
      · rename_i o ho
        split at e
        · rename_i hrec
          have hops : ops = #[o] := by apply Array.ext'; simpa using ho
          subst hops
          exact AWpS.seq (AWpS.recover hrec (ih b _ _ h n x fr' m' h' n' hb e Q hQ q))
        · exact step _ b ha hb e
      · exact step _ b ha hb e
    · split at e
      · rename_i x1 fr1 h1 n1 ea
        simp only [Option.some.injEq, Prod.mk.injEq] at e
        obtain ⟨⟨rfl, rfl, rfl⟩, rfl, rfl⟩ := e
        exact base c fr m h n x1 fr1 h1 n1 hd ea Q hQ q
      · cases e
/-- A deferred call. -/
def evalD (P : Program) (plans : Nat → Nat → Option (List Nat)) (call : CallE) (cf : Nat) (f : FuncId) (args : List Value) (m : MS) (h : Heap) (n : Nat) : Option (MS × Heap × Nat) :=
  match P.funcs[f]? with
  | some fn => match fn.body with
    | some c => match evalS P (plans f) call cf 100 c (frameOf args fn.ntmps) m h n with
      | some ((x, fr, m'), h', n') =>
        if fr.defers.isEmpty then
          match x with
          | .normal | .ret => match resultsE P fr h' fn.results.toList with
            | some _ => some (m', h', n')
            | none => none
          | _ => none
        else none
      | none => none
    | none => none
  | none => none
def PlansOk (P : Program) (plans : Nat → Nat → Option (List Nat)) : Prop := ∀ f fn c, P.funcs[f]? = some fn → fn.body = some c → ∀ r ∈ drawn c, planFits P (plans f) r = true
theorem evalD_sound {P : Program} (ok : POk P) {plans : Nat → Nat → Option (List Nat)} (hp : PlansOk P plans) {call : CallE} (hc : CallOk P call) {cf : Nat} {f : FuncId} {args : List Value} {m : MS} {h : Heap} {n : Nat} {m' : MS} {h' : Heap} {n' : Nat}
    (e : evalD P plans call cf f args m h n = some (m', h', n')) {Q : DPost} (q : ∀ v, Q (.ret v) m' h' n') : ((P.funcs[f]?).bind (·.body)).isSome = true ∧ ACallD P f args.toArray m h n Q := by
  unfold evalD at e
  split at e
  · rename_i fn hfn
    split at e
    · rename_i c hb
      refine ⟨by simp [hfn, hb], ?_⟩
      split at e
      · rename_i x fr m1 h1 n1 es
        split at e
        · rename_i hde
          have hd0 : fr.defers = [] := by simpa using hde
          refine ACallD.of_body hfn hb (evalS_sound ok hc _ _ _ _ _ _ _ _ _ _ _ (hp f fn c hfn hb) es _ ?_ ?_)
          · intro y f1 f2 m h n e q; exact ⟨e ▸ q.1, q.2⟩
          · split at e
            · split at e
              · rename_i vs hvs
                simp only [Option.some.injEq, Prod.mk.injEq] at e
                obtain ⟨rfl, rfl, rfl⟩ := e
                exact ⟨hd0, vs, hvs, q _⟩
              · cases e
            · split at e
              · rename_i vs hvs
                simp only [Option.some.injEq, Prod.mk.injEq] at e
                obtain ⟨rfl, rfl, rfl⟩ := e
                exact ⟨hd0, vs, hvs, q _⟩
              · cases e
            · cases e
        · cases e
      · cases e
    · cases e
  · cases e
def runLeaves (P : Program) (plans : Nat → Nat → Option (List Nat)) (call : CallE) (cf : Nat) (fn : Func) (fr : AAct) : List Deferred → MS → Heap → Nat → Option (AEnd × Heap × Nat)
  | [], .calm, h, n => match resultsE P fr h fn.results.toList with
    | some vs => some (.ret (tupleE vs), h, n)
    | none => none
  | [], .pend v, h, n => some (.pan v, h, n)
  | [], .done _, _, _ => none
  | d :: ds, m, h, n => match d.target with
    | .fn (.func f) cap => match evalD P plans call cf f (d.args.toList ++ cap.toList) m h n with
      | some (m', h', n') => runLeaves P plans call cf fn fr ds (match m' with | .done _ => .calm | x => x) h' n'
      | none => none
    | _ => none
theorem runLeaves_sound {P : Program} (ok : POk P) {plans : Nat → Nat → Option (List Nat)} (hp : PlansOk P plans) {call : CallE} (hc : CallOk P call) {cf : Nat} {fn : Func} {fr : AAct} {R : AEnd → Heap → Nat → Prop} : ∀ {ds : List Deferred} {m : MS} {h : Heap} {n : Nat} {r : AEnd} {h' : Heap} {n' : Nat},
    runLeaves P plans call cf fn fr ds m h n = some (r, h', n') → R r h' n' → leavesA P fn fr R ds m h n := by
  intro ds
  induction ds with
  | nil =>
    intro m h n r h' n' e q
    cases m with
    | calm =>
      simp only [runLeaves] at e
      split at e
      · rename_i vs hvs
        simp only [Option.some.injEq, Prod.mk.injEq] at e
        obtain ⟨rfl, rfl, rfl⟩ := e
        exact ⟨vs, hvs, q⟩
      · cases e
    | pend v =>
      simp only [runLeaves, Option.some.injEq, Prod.mk.injEq] at e
      obtain ⟨rfl, rfl, rfl⟩ := e
      exact q
    | done v => simp [runLeaves] at e
  | cons d ds ih =>
    intro m h n r h' n' e q
    obtain ⟨tgt, dargs⟩ := d
    simp only [runLeaves] at e
    simp only [leavesA]
    cases tgt with
    | fn fv cap =>
      cases fv with
      | func f =>
        simp only at e ⊢
        split at e
        · rename_i m1 h1 n1 ed
          exact evalD_sound ok hp hc ed (fun v => ih e q)
        · cases e
      | _ => simp at e
    | _ => simp at e
/-- The slots out of which a function's results are told. -/
def slotsOf (fn : Func) : List Nat := fn.results.toList.map fun
  | .tmp t => t
  | .cell a _ => a
theorem resultsE_congr {P : Program} {fr fr' : AAct} {h : Heap} : ∀ {rs : List ResultVar}, (∀ t ∈ rs.map (fun | .tmp t => t | .cell a _ => a), fr.get t = fr'.get t) → resultsE P fr h rs = resultsE P fr' h rs := by
  intro rs
  induction rs with
  | nil => intro _; rfl
  | cons r rs ih =>
    intro he
    simp only [resultsE]
    have h1 : resultE P fr h r = resultE P fr' h r := by
      cases r with
      | tmp t => simp only [resultE]; rw [he t (by simp)]
      | cell a t => simp only [resultE]; rw [he a (by simp)]
    rw [h1, ih (fun t ht => he t (by simp at ht ⊢; exact .inr ht))]
theorem leavesA_congr {P : Program} {fn : Func} {fr fr' : AAct} {R : AEnd → Heap → Nat → Prop} (he : ∀ t ∈ slotsOf fn, fr.get t = fr'.get t) : ∀ {ds : List Deferred} {m : MS} {h : Heap} {n : Nat}, leavesA P fn fr R ds m h n → leavesA P fn fr' R ds m h n := by
  intro ds
  induction ds with
  | nil =>
    intro m h n q
    cases m with
    | calm => obtain ⟨vs, q1, q2⟩ := q; exact ⟨vs, by rw [← resultsE_congr he]; exact q1, q2⟩
    | pend v => exact q
    | done v => exact q
  | cons d ds ih =>
    intro m h n q
    simp only [leavesA] at q ⊢
    split
    · rename_i f cap hd
      rw [hd] at q
      simp only at q
      refine ⟨q.1, fun μ args' w u ha hr hm => (q.2 μ args' w u ha hr hm).mono ?_⟩
      rintro e u' w' ⟨μ', h', n', r, m', x1, x2, x3, x4, x5, q'⟩
      refine ⟨μ', h', n', r, m', x1, x2, x3, x4, x5, ?_⟩
      cases r with
      | ret v => exact ih q'
      | pan v => exact q'
    · rename_i hne
      split at q
      · rename_i f cap hd; exact (hne f cap hd).elim
      · exact q
theorem bodyAD_panExt {P : Program} {fn : Func} {R : AEnd → Heap → Nat → Prop} : PanExt (slotsOf fn) (bodyAD P fn R) := by
  intro x fr fr' h n e he q
  have q' : leavesA P fn fr R fr.defers (.pend x) h n := q
  show leavesA P fn fr' R fr'.defers (.pend x) h n
  rw [← e]
  exact leavesA_congr he q'
abbrev Ov := FuncId → Option (List Value → Heap → Nat → Option (AEnd × Heap × Nat))
def evalCall (P : Program) (plans : Nat → Nat → Option (List Nat)) (ov : Ov) (cf : Nat) : Nat → CallE
  | 0 => fun _ _ _ _ => none
  | k + 1 => fun f args h n => match (ov f).bind fun g => g args h n with
    | some x => some x
    | none => match P.funcs[f]? with
      | some fn => match fn.body with
        | some c => match evalCode P (plans f) (evalCall P plans ov cf k) cf c (frameOf args fn.ntmps) h n with
          | some ((x, fr), h', n') =>
            if fr.defers.isEmpty then match x with
              | .normal | .ret => match resultsE P fr h' fn.results.toList with
                | some vs => some (.ret (tupleE vs), h', n')
                | none => none
              | .pan v => some (.pan v, h', n')
              | _ => none
            else if (drawn c).all fun r => avoids (slotsOf fn) r.2 then match x with
              | .normal | .ret => runLeaves P plans (evalCall P plans ov cf k) cf fn fr fr.defers .calm h' n'
              | .pan v => runLeaves P plans (evalCall P plans ov cf k) cf fn fr fr.defers (.pend v) h' n'
              | _ => none
            else none
          | none => none
        | none => none
      | none => none
def OvOk (P : Program) (ov : Ov) : Prop := ∀ f g, ov f = some g → CallOk P (fun f' args h n => if f' = f then g args h n else none)
theorem evalCall_sound {P : Program} (ok : POk P) {plans : Nat → Nat → Option (List Nat)} (hp : PlansOk P plans) {ov : Ov} (ho : OvOk P ov) {cf : Nat} : ∀ k, CallOk P (evalCall P plans ov cf k) := by
  intro k
  induction k with
  | zero => intro f args h n r h' n' e; simp [evalCall] at e
  | succ k ih =>
    intro f args h n r h' n' e
    simp only [evalCall] at e
    split at e
    · rename_i x hx
      obtain ⟨g, hg, hx⟩ := Option.bind_eq_some_iff.1 hx
      cases e
      exact ho f g hg f args h n r h' n' (by simpa using hx)
    · split at e
      · rename_i fn hfn
        split at e
        · rename_i c hb
          split at e
          · rename_i x fr h1 n1 ec
            split at e
            · rename_i hde
              have hd0 : fr.defers = [] := by simpa using hde
              refine ACall.of_body hfn hb (evalCode_sound ok (S := []) ih cf c _ h n x fr h1 n1 (fun r hr => ⟨hp f fn c hfn hb r hr, avoids_nil _⟩) ec _ bodyA_panExt ?_)
              split at e
              · split at e
                · rename_i vs hvs
                  simp only [Option.some.injEq, Prod.mk.injEq] at e
                  obtain ⟨rfl, rfl, rfl⟩ := e
                  exact ⟨hd0, vs, hvs, rfl, rfl, rfl⟩
                · cases e
              · split at e
                · rename_i vs hvs
                  simp only [Option.some.injEq, Prod.mk.injEq] at e
                  obtain ⟨rfl, rfl, rfl⟩ := e
                  exact ⟨hd0, vs, hvs, rfl, rfl, rfl⟩
                · cases e
              · simp only [Option.some.injEq, Prod.mk.injEq] at e
                obtain ⟨rfl, rfl, rfl⟩ := e
                exact ⟨hd0, rfl, rfl, rfl⟩
              · cases e
            · split at e
              · rename_i hav
                refine ACall.of_body_defers ok hfn hb (evalCode_sound ok ih cf c _ h n x fr h1 n1 (fun r hr => ⟨hp f fn c hfn hb r hr, List.all_eq_true.1 hav r hr⟩) ec _ bodyAD_panExt ?_)
                split at e
                · exact runLeaves_sound ok hp ih e ⟨rfl, rfl, rfl⟩
                · exact runLeaves_sound ok hp ih e ⟨rfl, rfl, rfl⟩
                · exact runLeaves_sound ok hp ih e ⟨rfl, rfl, rfl⟩
                · cases e
              · cases e
          · cases e
        · cases e
      · cases e
end Go.Abs
/- Calls that read alone, in whatever memory; tables of such calls. -/
namespace Go.Abs
open Go
/-- A heap of which all is flat, owned by nobody, and lies below G. -/
def RO (G : Nat) (h : Heap) : Prop := ∀ b o, h.get b = some o → b < G ∧ ∃ cs ci, o = .cells cs false ci ∧ (cs.all flat) = true
theorem ACall.frame {P : Program} {f : FuncId} {args : List Value} {h0 h : Heap} {n : Nat} {v : Value} (ro : RO P.globals.size h0) (hsub : h0.sub h) (hargs : (args.all flat) = true) (hv : flat v = true)
    (c : ACall P f args.toArray h0 P.globals.size fun r _ _ => r = .ret v) : ACall P f args.toArray h n fun r h' n' => r = .ret v ∧ h' = h ∧ n' = n := by
  intro μ args' w ha hr
  have r0 : Rel P (fun b => if b < P.globals.size then μ b else none) h0 P.globals.size w := by
    refine ⟨?_, ?_, ?_, ?_⟩
    · intro b o hb
      obtain ⟨hlt, cs, ci, rfl, hf⟩ := ro b o hb
      obtain ⟨m, x, f1, f2, f3⟩ := hr.obj b _ (hsub b _ hb)
      refine ⟨m, x, by rw [if_pos hlt]; exact f1, f2, ?_⟩
      cases x with
      | cells c el fr =>
        obtain ⟨g1, g2, g3, g4⟩ := f3
        refine ⟨g1, g2, fun i a hi => ?_, g4⟩
        obtain ⟨a', q1, q2⟩ := g3 i a hi
        have hfa : flat a = true := List.all_eq_true.1 hf a (List.mem_of_getElem? hi)
        rw [q2.flat_eq hfa] at q1
        exact ⟨a, q1, .flat_self hfa⟩
      | _ => exact f3.elim
    · intro b b' o o' m m' hb he
      obtain ⟨_, cs, ci, rfl, _⟩ := ro b o hb
      cases he
    · intro b hb
      simp only [Nat.not_lt.2 hb, if_false]
    · intro g hg
      obtain ⟨m, q⟩ := hr.glob g hg
      exact ⟨m, by rw [if_pos hg]; exact q.1, q.2⟩
  have a0 : ARel (fun b => if b < P.globals.size then μ b else none) args.toArray args' := by
    refine ⟨ha.1, fun i x y hx hy => ?_⟩
    have hxm : x ∈ args := by simp only [List.getElem?_toArray] at hx; exact List.mem_of_getElem? hx
    have hfx := List.all_eq_true.1 hargs x hxm
    rw [(ha.2 i x y hx hy).flat_eq hfx]
    exact .flat_self hfx
  refine (c _ args' w a0 r0).mono ?_
  rintro e w' ⟨μ', h', n', r, he, hr', hg, hn, rfl⟩
  cases he with
  | ret hvv =>
    rw [hvv.flat_eq hv]
    have hk : ∀ c, c < w.heap.size → w'.heap[c]? = w.heap[c]? := fun c hc => hg.kept c hc (fun b o m hb hex => by
      obtain ⟨_, cs, ci, rfl, _⟩ := ro b o hb
      cases hex)
    refine ⟨μ, h, n, .ret v, .ret (.flat_self hv), ⟨?_, hr.sep, hr.bound, hr.glob⟩, ⟨μ.le_refl, hg.size, hg.os, hg.tape, hg.output, fun c hc _ => hk c hc, fun b' o' m' a b c _ => ⟨b', o', m', a, b, c, rfl⟩⟩, Nat.le_refl _, rfl, rfl, rfl⟩
    intro b o hb
    obtain ⟨m, x, f1, f2, f3⟩ := hr.obj b o hb
    exact ⟨m, x, f1, by rw [hk _ (Array.getElem?_eq_some_iff.1 f2).1]; exact f2, f3⟩
/-! Rows of cells that are known. -/
def natsEq : List Nat → List Value → IntKind → Bool
  | [], [], _ => true
  | a :: x, .int k b :: y, j => k == j && b == (a : Int) && natsEq x y j
  | _, _, _ => false
/-- A program's variables, read alone: which, of which kind, what they hold. -/
abbrev Laid := List (Nat × IntKind × List Nat)
def rowOf (k : IntKind) (l : List Nat) : List Value := l.map fun (n : Nat) => .int k n
def laidHeap (c : Nat → CI) : Laid → Heap
  | [] => .nil
  | (g, k, l) :: r => (laidHeap c r).set g (.cells (rowOf k l) false (c g))
def based (h : Heap) (L : Laid) : Bool := L.all fun x => match h.get x.1 with
  | some (.cells cs false _) => natsEq x.2.2 cs x.2.1
  | _ => false
theorem natsEq_eq {k : IntKind} : ∀ {l : List Nat} {cs : List Value}, natsEq l cs k = true → cs = rowOf k l := by
  intro l
  induction l with
  | nil => intro cs h; cases cs with
    | nil => rfl
    | cons => simp [natsEq] at h
  | cons a l ih =>
    intro cs h
    cases cs with
    | nil => simp [natsEq] at h
    | cons v cs =>
      cases v <;> simp [natsEq] at h
      obtain ⟨⟨rfl, rfl⟩, h⟩ := h
      simp only [rowOf, List.map_cons, ih h]
theorem rowOf_flat (k : IntKind) (l : List Nat) : ((rowOf k l).all flat) = true := by
  rw [List.all_eq_true]
  intro y hy
  obtain ⟨a, _, rfl⟩ := List.mem_map.1 hy
  rfl
theorem laidHeap_ro {G : Nat} (c : Nat → CI) : ∀ {L : Laid}, (L.all fun x => decide (x.1 < G)) = true → RO G (laidHeap c L) := by
  intro L
  induction L with
  | nil => intro _ b o hb; cases hb
  | cons x L ih =>
    intro hl b o hb
    simp only [List.all_cons, Bool.and_eq_true, decide_eq_true_eq] at hl
    obtain ⟨g, k, l⟩ := x
    rw [laidHeap, Trie.get_set] at hb
    split at hb
    · rename_i e
      subst e
      cases hb
      exact ⟨hl.1, _, _, rfl, rowOf_flat k l⟩
    · exact ih hl.2 b o hb
theorem laidHeap_sub {h : Heap} {L : Laid} (e : based h L = true) : ∃ c, (laidHeap c L).sub h := by
  refine ⟨fun g => match h.get g with | some (.cells _ _ ci) => ci | _ => default, ?_⟩
  induction L with
  | nil => intro b o hb; cases hb
  | cons x L ih =>
    obtain ⟨g, k, l⟩ := x
    simp only [based, List.all_cons, Bool.and_eq_true] at e
    intro b o hb
    rw [laidHeap, Trie.get_set] at hb
    split at hb
    · rename_i eb
      subst eb
      have h1 := e.1
      split at h1
      · rename_i cs ci hg
        rw [natsEq_eq h1] at hg
        cases hb
        rw [hg]
      · cases h1
    · exact ih e.2 b o hb
/-- Calls of which it is known what they return: the function, the arguments, the value. -/
abbrev Tab := List (FuncId × List Value × Value)
def argsEq : List Value → List Value → Bool := allEq (valEq 20)
def findTab (f : FuncId) (args : List Value) : Tab → Option Value
  | [] => none
  | (g, as, v) :: r => if g = f then (if argsEq as args then some v else findTab f args r) else findTab f args r
def tabOv (L : Laid) (T : Tab) : Ov := fun f => some fun args h n =>
  match findTab f args T with
  | some v => if based h L then some (.ret v, h, n) else none
  | none => none
def TabOk (P : Program) (L : Laid) (T : Tab) : Prop := ∀ x ∈ T, (x.2.1.all flat) = true ∧ flat x.2.2 = true ∧ ∀ c, ACall P x.1 x.2.1.toArray (laidHeap c L) P.globals.size fun r _ _ => r = .ret x.2.2
theorem findTab_mem {f : FuncId} {args : List Value} : ∀ {T : Tab} {v : Value}, findTab f args T = some v → (f, args, v) ∈ T := by
  intro T
  induction T with
  | nil => intro v e; cases e
  | cons x T ih =>
    obtain ⟨g, as, v0⟩ := x
    intro v e
    simp only [findTab] at e
    split at e
    · rename_i hg
      subst hg
      split at e
      · rename_i ha
        cases e
        have := allEq_eq (valEq_eq 20) ha
        subst this
        exact List.mem_cons_self ..
      · exact List.mem_cons_of_mem _ (ih e)
    · exact List.mem_cons_of_mem _ (ih e)
theorem tabOv_ok {P : Program} {L : Laid} {T : Tab} (hL : (L.all fun x => decide (x.1 < P.globals.size)) = true) (hT : TabOk P L T) : OvOk P (tabOv L T) := by
  intro f g hg f' args h n r h' n' e
  simp only [tabOv, Option.some.injEq] at hg
  subst hg
  simp only at e
  split at e
  · rename_i hff
    subst hff
    split at e
    · rename_i v hv
      split at e
      · rename_i hb
        cases e
        obtain ⟨t1, t2, t3⟩ := hT _ (findTab_mem hv)
        obtain ⟨c, hs⟩ := laidHeap_sub hb
        exact ACall.frame (laidHeap_ro c hL) hs t1 t2 (t3 c)
      · cases e
    · cases e
  · cases e
theorem TabOk.nil {P : Program} {L : Laid} : TabOk P L [] := fun _ h => by cases h
theorem TabOk.append {P : Program} {L : Laid} {T T' : Tab} (a : TabOk P L T) (b : TabOk P L T') : TabOk P L (T ++ T') := fun x hx => (List.mem_append.1 hx).elim (a x) (b x)
/-- What is asked of a table, that the kernel runs. -/
def entryB (x : Option (AEnd × Heap × Nat)) (v : Value) : Bool := match x with
  | some (.ret u, _, _) => valEq 20 u v
  | _ => false
def tabB (P : Program) (plans : Nat → Nat → Option (List Nat)) (ov : Ov) (h : Heap) (T : Tab) : Bool :=
  T.all fun x => x.2.1.all flat && flat x.2.2 && entryB (evalCall P plans ov 100000 60 x.1 x.2.1 h P.globals.size) x.2.2
theorem TabOk.of_run {P : Program} (ok : POk P) {plans : Nat → Nat → Option (List Nat)} (hp : PlansOk P plans) {L : Laid} (hL : (L.all fun x => decide (x.1 < P.globals.size)) = true) {T T' : Tab} (hT : TabOk P L T)
    (h : ∀ c, tabB P plans (tabOv L T) (laidHeap c L) T' = true) : TabOk P L T' := by
  intro x hx
  have key : ∀ c, _ := fun c => List.all_eq_true.1 (h c) x hx
  simp only [Bool.and_eq_true] at key
  refine ⟨(key fun _ => default).1.1, (key fun _ => default).1.2, fun c => ?_⟩
  have := (key c).2
  unfold entryB at this
  split at this
  · rename_i u h' n' e
    have he := evalCall_sound ok hp (tabOv_ok hL hT) 60 _ _ _ _ _ _ _ e
    refine he.mono ?_
    rintro r h1 n1 _ _ ⟨rfl, rfl, rfl⟩
    exact ⟨_, Heap.sub_refl _, by rw [valEq_eq _ _ _ this]⟩
  · cases this
/-- A program's facts, and its plans', in one run. -/
def progB (P : Program) (plans : Nat → Nat → Option (List Nat)) : Bool :=
  P.follows .mixedOrders && P.funcs.toList.all (fun fn => !(fn.name == "runtime.NumGoroutine")) &&
  (P.funcs.toList.zipIdx).all fun x => match x.1.body with
    | some c => (drawn c).all (planFits P (plans x.2))
    | none => true
theorem progB_ok {P : Program} {plans : Nat → Nat → Option (List Nat)} (h : progB P plans = true) : POk P ∧ PlansOk P plans := by
  simp only [progB, Bool.and_eq_true] at h
  obtain ⟨⟨h1, h2⟩, h3⟩ := h
  refine ⟨⟨h1, fun f fn hf => ?_⟩, fun f fn c hf hb r hr => ?_⟩
  · have := List.all_eq_true.1 h2 fn (by rw [Array.mem_toList_iff]; exact Array.mem_of_getElem? hf)
    simpa using this
  · have hm : (fn, f) ∈ P.funcs.toList.zipIdx := by
      rw [List.mem_zipIdx_iff_getElem?]
      simpa using hf
    have := List.all_eq_true.1 h3 _ hm
    rw [hb] at this
    exact List.all_eq_true.1 this r hr
end Go.Abs
