/- An evaluator for calls whose arguments are known, and that it tells the truth. -/
import Derived.Test.YtkpjfibpaojelaaGreatDoorAbs22
import Derived.Scope
namespace Go.Abs
open Go

def noGoto (Q : APost) : APost
  | .goto _, _, _, _ => False
  | e, a, h, n => Q e a h n

theorem AWp.scope {P : Program} {Q : APost} {fr : AAct} {h : Heap} {n : Nat} {c : Code} (q : AWp P c (noGoto Q) fr h n) : AWp P (.scope c) Q fr h n := by
  intro μ a w hf hr
  refine wp_scope_straight (wp_mono (q μ a w hf hr) ?_)
  rintro e a1 w1 ⟨μ1, x1, fr1, h1, n1, hx1, hf1, hr1, hg1, hn1, q⟩
  cases hx1 with
  | normal => exact ⟨μ1, _, fr1, h1, n1, .normal, hf1, hr1, hg1, hn1, q⟩
  | exit id => exact ⟨μ1, _, fr1, h1, n1, .exit id, hf1, hr1, hg1, hn1, q⟩
  | goto l => exact q.elim
  | ret => exact ⟨μ1, _, fr1, h1, n1, .ret, hf1, hr1, hg1, hn1, q⟩
  | pan hv => exact ⟨μ1, _, fr1, h1, n1, .pan hv, hf1, hr1, hg1, hn1, q⟩

/-! Values held against each other. -/
def allEq (p : Value → Value → Bool) : List Value → List Value → Bool
  | [], [] => true
  | a :: x, b :: y => p a b && allEq p x y
  | _, _ => false

def valEq : Nat → Value → Value → Bool
  | _, .bool a, .bool b => a == b
  | _, .int j a, .int k b => j == k && a == b
  | _, .string a, .string b => a.data.toList == b.data.toList
  | _, .pointer a, .pointer b => a == b
  | _, .slice a l c, .slice b m d => a == b && l == m && c == d
  | _, .map a, .map b => a == b
  | _, .nilFunc, .nilFunc => true
  | _, .nilIface, .nilIface => true
  | n + 1, .iface t v, .iface u w => t == u && valEq n v w
  | n + 1, .agg a, .agg b => allEq (valEq n) a.toList b.toList
  | n + 1, .tuple a, .tuple b => allEq (valEq n) a.toList b.toList
  | n + 1, .func f a c, .func g b d => f == g && allEq (valEq n) a.toList b.toList && allEq (valEq n) c.toList d.toList
  | _, _, _ => false

theorem allEq_eq {p : Value → Value → Bool} (hp : ∀ a b, p a b = true → a = b) : ∀ {x y : List Value}, allEq p x y = true → x = y := by
  intro x
  induction x with
  | nil => intro y h; cases y with
    | nil => rfl
    | cons => simp [allEq] at h
  | cons a x ih =>
    intro y h
    cases y with
    | nil => simp [allEq] at h
    | cons b y => simp only [allEq, Bool.and_eq_true] at h; rw [hp _ _ h.1, ih h.2]

theorem valEq_eq : ∀ (n : Nat) (a b : Value), valEq n a b = true → a = b := by
  intro n
  induction n with
  | zero =>
    intro a b h
    cases a <;> cases b <;> simp [valEq] at h <;> (try rfl) <;> (try simp_all; done)
    · rename_i s t
      congr 1
      apply ByteArray.ext
      apply Array.ext'
      exact congrArg Array.toList h
  | succ n ih =>
    intro a b h
    cases a <;> cases b <;> simp [valEq] at h <;> (try rfl) <;> (try (simp_all; done))
    · rename_i s t
      congr 1
      apply ByteArray.ext
      apply Array.ext'
      exact congrArg Array.toList h
    · obtain ⟨⟨rfl, h1⟩, h2⟩ := h
      congr 1
      · exact Array.ext' (allEq_eq ih h1)
      · exact Array.ext' (allEq_eq ih h2)
    · obtain ⟨rfl, h1⟩ := h
      rw [ih _ _ h1]
    · congr 1
      exact Array.ext' (allEq_eq ih h)
    · congr 1
      exact Array.ext' (allEq_eq ih h)

abbrev CallE := FuncId → List Value → Heap → Nat → Option (AEnd × Heap × Nat)

inductive ORun where
  | go (fr : AAct) (h : Heap) (n : Nat)
  | pan (v : Value) (h : Heap) (n : Nat)

def runOp (P : Program) (call : CallE) (ops : Array Oper) (o : Oper) (fr : AAct) (h : Heap) (n : Nat) : Option ORun :=
  if wantedA ops o fr then
    if okOper P.globals.size o then
      match calmE P o fr.eval h with
      | some v => some (.go (fr.put o.dst v) h n)
      | none => match actE P o fr.eval h n with
        | some (.val v, h', n') => some (.go (fr.put o.dst v) h' n')
        | some (.skip, h', n') => some (.go (fr.put o.dst undef) h' n')
        | some (.ent f args, h', n') => match call f args h' n' with
          | some (.ret v, h'', n'') => some (.go (fr.put o.dst v) h'' n'')
          | some (.pan v, h'', n'') => some (.pan v h'' n'')
          | none => none
        | some (.dfr d, h', n') => some (.go (({ fr with defers := d :: fr.defers } : AAct).put o.dst undef) h' n')
        | some (.pan v, h', n') => some (.pan v h' n')
        | none => none
    else none
  else some (.go (fr.put o.dst undef) h n)

def CallOk (P : Program) (call : CallE) : Prop := ∀ f args h n r h' n', call f args h n = some (r, h', n') → ACall P f args.toArray h n fun r1 h1 n1 => r1 = r ∧ h1 = h' ∧ n1 = n'

theorem runOp_sound {P : Program} {call : CallE} (hc : CallOk P call) {ops : Array Oper} {o : Oper} {fr : AAct} {h : Heap} {n : Nat} {x : ORun} (e : runOp P call ops o fr h n = some x) {K : ANextK} {Qp : Value → Heap → Nat → Prop}
    (hk : match x with | .go fr' h' n' => K fr' h' n' | .pan v h' n' => Qp v h' n') : opW P (acall P) ops o fr h n K Qp := by
  unfold runOp at e
  unfold opW
  split at e
  · rename_i hw
    rw [if_pos hw]
    split at e
    · rename_i hok
      refine ⟨hok, ?_⟩
      split at e
      · rename_i v hv; rw [hv]; cases e; exact hk
      · rename_i hv
        rw [hv]
        simp only
        split at e
        · rename_i hx; rw [hx]; cases e; exact hk
        · rename_i hx; rw [hx]; cases e; exact hk
        · rename_i f args h' n' hx
          rw [hx]
          split at e
          · rename_i v h'' n'' hcall
            cases e
            refine (hc _ _ _ _ _ _ _ hcall).mono ?_
            rintro r h1 n1 _ _ ⟨rfl, rfl, rfl⟩
            exact ⟨_, Heap.sub_refl _, hk⟩
          · rename_i v h'' n'' hcall
            cases e
            refine (hc _ _ _ _ _ _ _ hcall).mono ?_
            rintro r h1 n1 _ _ ⟨rfl, rfl, rfl⟩
            exact ⟨_, Heap.sub_refl _, hk⟩
          · cases e
        · rename_i hx; rw [hx]; cases e; exact hk
        · rename_i hx; rw [hx]; cases e; exact hk
        · cases e
    · cases e
  · rename_i hw
    rw [if_neg hw]
    cases e
    exact hk

def runSeq (P : Program) (call : CallE) (ops : Array Oper) : List Oper → AAct → Heap → Nat → Option ((AExit × AAct) × Heap × Nat)
  | [], fr, h, n => some ((.normal, fr), h, n)
  | o :: rest, fr, h, n => match runOp P call ops o fr h n with
    | some (.go fr' h' n') => runSeq P call ops rest fr' h' n'
    | some (.pan v h' n') => some ((.pan v, fr), h', n')
    | none => none

theorem runSeq_sound {P : Program} {call : CallE} (hc : CallOk P call) {ops : Array Oper} {Q : APost} : ∀ {l : List Oper} {fr : AAct} {h : Heap} {n : Nat} {x : AExit} {fr' : AAct} {h' : Heap} {n' : Nat}, runSeq P call ops l fr h n = some ((x, fr'), h', n') → Q x fr' h' n' →
    seqW P (acall P) ops Q l fr h n := by
  intro l
  induction l with
  | nil => intro fr h n x fr' h' n' e q; simp only [runSeq, Option.some.injEq, Prod.mk.injEq] at e; obtain ⟨⟨rfl, rfl⟩, rfl, rfl⟩ := e; exact q
  | cons o rest ih =>
    intro fr h n x fr' h' n' e q
    simp only [runSeq] at e
    split at e
    · rename_i fr1 h1 n1 ho
      exact runOp_sound hc ho (ih e q)
    · rename_i v h1 n1 ho
      simp only [Option.some.injEq, Prod.mk.injEq] at e
      obtain ⟨⟨rfl, rfl⟩, rfl, rfl⟩ := e
      exact runOp_sound hc ho q
    · cases e

/-- What has been read, and must still read so. -/
structure Seen where
  at_ : Nat
  o : Oper
  fr : AAct
  v : Value

def runDraw (P : Program) (call : CallE) (ops : Array Oper) : List Nat → List Seen → AAct → Heap → Nat → Option ((AExit × AAct) × Heap × Nat)
  | [], _, fr, h, n => some ((.normal, fr), h, n)
  | i :: rest, inv, fr, h, n => match ops[i]? with
    | none => none
    | some o =>
      if kindOf P o = 0 then
        match runOp P call ops o fr h n with
        | some (.go fr' h' n') =>
          if (inv.filter fun x => !dep ops i x.at_).all fun x => match calmE P x.o x.fr.eval h' with | some v => valEq 20 v x.v | none => false then
            runDraw P call ops rest (inv.filter fun x => !dep ops i x.at_) fr' h' n'
          else none
        | some (.pan v h' n') => some ((.pan v, fr), h', n')
        | none => none
      else if wantedA ops o fr then
        if okOper P.globals.size o then
          match calmE P o fr.eval h with
          | some v => runDraw P call ops rest (if kindOf P o = 1 then inv else ⟨i, o, fr, v⟩ :: inv) (fr.put o.dst v) h n
          | none => none
        else none
      else runDraw P call ops rest inv (fr.put o.dst undef) h n

def seenInv (P : Program) (l : List Seen) : Inv := l.map fun x => (x.at_, fun h' => calmE P x.o x.fr.eval h' = some x.v)

theorem seenInv_filter (P : Program) (l : List Seen) (ops : Array Oper) (i : Nat) : (seenInv P l).filter (fun x => !dep ops i x.1) = seenInv P (l.filter fun x => !dep ops i x.at_) := by
  induction l with
  | nil => rfl
  | cons x l ih =>
    simp only [seenInv, List.map_cons, List.filter_cons] at ih ⊢
    split <;> simp_all

theorem runDraw_sound {P : Program} {call : CallE} (hc : CallOk P call) {ops : Array Oper} {Q : APost} : ∀ {plan : List Nat} {inv : List Seen} {fr : AAct} {h : Heap} {n : Nat} {x : AExit} {fr' : AAct} {h' : Heap} {n' : Nat}, runDraw P call ops plan inv fr h n = some ((x, fr'), h', n') → Q x fr' h' n' →
    drawW P (acall P) ops Q plan (seenInv P inv) fr h n := by
  intro plan
  induction plan with
  | nil => intro inv fr h n x fr' h' n' e q; simp only [runDraw, Option.some.injEq, Prod.mk.injEq] at e; obtain ⟨⟨rfl, rfl⟩, rfl, rfl⟩ := e; exact q
  | cons i rest ih =>
    intro inv fr h n x fr' h' n' e q
    simp only [runDraw] at e
    simp only [drawW]
    cases ho : ops[i]? with
    | none => rw [ho] at e; cases e
    | some o =>
      rw [ho] at e
      simp only at e ⊢
      split at e
      · rename_i hk
        rw [if_pos hk]
        split at e
        · rename_i fr1 h1 n1 hop
          split at e
          · rename_i hall
            refine runOp_sound hc hop ?_
            rw [seenInv_filter]
            refine ⟨?_, ih e q⟩
            intro y hy
            simp only [seenInv, List.mem_map] at hy
            obtain ⟨s, hs, rfl⟩ := hy
            have := List.all_eq_true.1 hall s hs
            simp only
            split at this
            · rename_i v hv; rw [hv, valEq_eq _ _ _ this]
            · cases this
          · cases e
        · rename_i v h1 n1 hop
          simp only [Option.some.injEq, Prod.mk.injEq] at e
          obtain ⟨⟨rfl, rfl⟩, rfl, rfl⟩ := e
          exact runOp_sound hc hop q
        · cases e
      · rename_i hk
        rw [if_neg hk]
        split at e
        · rename_i hw
          rw [if_pos hw]
          split at e
          · rename_i hok
            refine ⟨hok, ?_⟩
            split at e
            · rename_i v hv
              rw [hv]
              simp only
              by_cases hk1 : kindOf P o = 1
              · rw [if_pos hk1] at e ⊢; exact ih e q
              · rw [if_neg hk1] at e ⊢; exact ih (inv := ⟨i, o, fr, v⟩ :: inv) e q
            · cases e
          · cases e
        · rename_i hw
          rw [if_neg hw]
          exact ih e q

/-- The regions of a code that draw their order. -/
def drawn : Code → List (Nat × Array Oper)
  | .region id ops true => [(id, ops)]
  | .seq a b => drawn a ++ drawn b
  | .cond _ a b => drawn a ++ drawn b
  | .block _ a => drawn a
  | .loop a => drawn a
  | .scope a => drawn a
  | _ => []

def planFits (P : Program) (plans : Nat → Option (List Nat)) (r : Nat × Array Oper) : Bool :=
  match plans r.1 with
  | some plan => Region.noSelect r.2 && planOk P r.2 plan (Array.replicate r.2.size false) && plan.length == r.2.size
  | none => true

def evalCode (P : Program) (plans : Nat → Option (List Nat)) (call : CallE) : Nat → Code → AAct → Heap → Nat → Option ((AExit × AAct) × Heap × Nat)
  | 0, _, _, _, _ => none
  | k + 1, c, fr, h, n => match c with
    | .skip | .label _ => some ((.normal, fr), h, n)
    | .exit id => some ((.exit id, fr), h, n)
    | .ret => some ((.ret, fr), h, n)
    | .seq a b => match evalCode P plans call k a fr h n with
      | some ((.normal, fr'), h', n') => evalCode P plans call k b fr' h' n'
      | x => x
    | .cond c a b => if okOperand P.globals.size c then (match fr.eval c with
      | .bool t => evalCode P plans call k (if t then a else b) fr h n
      | _ => none) else none
    | .block id a => match evalCode P plans call k a fr h n with
      | some ((.exit id', fr'), h', n') => if id' = id then some ((.normal, fr'), h', n') else some ((.exit id', fr'), h', n')
      | x => x
    | .loop a => match evalCode P plans call k a fr h n with
      | some ((.normal, fr'), h', n') => evalCode P plans call k (.loop a) fr' h' n'
      | x => x
    | .scope a => match evalCode P plans call k a fr h n with
      | some ((.goto _, _), _, _) => none
      | x => x
    | .region _ ops false => runSeq P call ops ops.toList fr h n
    | .region id ops true => match plans id with
      | some plan => runDraw P call ops plan [] fr h n
      | none => none
    | _ => none
end Go.Abs
