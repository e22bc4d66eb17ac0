/- Functions by their bodies. -/
import Derived.Test.YtkpjfibpaojelaaGreatDoorAbs20
namespace Go.Abs
open Go

def frameT : List Value → Nat → Trie Value → Trie Value
  | [], _, t => t
  | v :: r, i, t => frameT r (i + 1) (t.set i v)

def frameOf (args : List Value) (ntmps : Nat) : AAct := { t := frameT args 0 .nil, size := args.length + (ntmps - args.length), defers := [] }

theorem get_frameT : ∀ (args : List Value) (i : Nat) (t : Trie Value) (j : Nat), (frameT args i t).get j = if i ≤ j ∧ j < i + args.length then args[j - i]? else t.get j := by
  intro args
  induction args with
  | nil => intro i t j; simp only [frameT, List.length_nil]; rw [if_neg (by omega)]
  | cons v r ih =>
    intro i t j
    simp only [frameT]
    rw [ih]
    by_cases h : i + 1 ≤ j ∧ j < i + 1 + r.length
    · rw [if_pos h, if_pos (by simp only [List.length_cons]; omega)]
      obtain ⟨k, rfl⟩ : ∃ k, j = i + 1 + k := ⟨j - (i + 1), by omega⟩
      rw [show i + 1 + k - (i + 1) = k by omega, show i + 1 + k - i = k + 1 by omega]
      simp
    · rw [if_neg h, Trie.get_set]
      by_cases e : j = i
      · subst e; rw [if_pos rfl, if_pos (by simp only [List.length_cons]; omega)]; simp
      · rw [if_neg e, if_neg (by simp only [List.length_cons]; omega)]

theorem frameOf_rel {μ : Mu} {args args' : List Value} (h : LRel μ args args') (n : Nat) : FRel μ (frameOf args n) { tmps := args'.toArray ++ Array.replicate (n - args'.toArray.size) undef, defers := [] } := by
  have hl := h.length
  refine ⟨by simp [frameOf, hl], fun i => ?_, .nil⟩
  simp only [AAct.get, frameOf, get_frameT, Array.getD_eq_getD_getElem?]
  by_cases hi : i < args.length
  · rw [if_pos (by omega)]
    obtain ⟨x, hx⟩ : ∃ x, args[i]? = some x := ⟨args[i], List.getElem?_eq_getElem hi⟩
    obtain ⟨y, hy, hv⟩ := h.get hx
    rw [Nat.sub_zero, hx, Array.getElem?_append_left (by simp; omega)]
    simp only [List.getElem?_toArray, hy, Option.getD_some]
    exact hv
  · rw [if_neg (by omega), Trie.get_nil, Array.getElem?_append_right (by simp; omega)]
    simp only [Option.getD_none]
    rw [Array.getElem?_replicate]
    split <;> exact undef_rel μ

def resultE (P : Program) (fr : AAct) (h : Heap) : ResultVar → Option Value
  | .tmp t => some (fr.get t)
  | .cell a t => loadE P t (fr.get a) h

def resultsE (P : Program) (fr : AAct) (h : Heap) : List ResultVar → Option (List Value)
  | [] => some []
  | r :: rs => match resultE P fr h r, resultsE P fr h rs with
    | some v, some vs => some (v :: vs)
    | _, _ => none

def tupleE : List Value → Value
  | [v] => v
  | vs => .tuple vs.toArray

def resOf (tmps : Array Value) : ResultVar → Sem Value
  | .tmp t => pure (tmps.getD t undef)
  | .cell b t => do loadVar t (← asAddr (tmps.getD b undef))

theorem results_eq (fn : Func) (tmps : Array Value) : results fn tmps = (do
    let vs ← fn.results.mapM (resOf tmps)
    pure (if h : vs.size = 1 then vs[0] else .tuple vs)) := by
  have : (resOf tmps) = (fun x => match x with
    | .tmp t => pure (tmps.getD t undef)
    | .cell b t => (do loadVar t (← asAddr (tmps.getD b undef)))) := by funext x; cases x <;> rfl
  rw [this]
  rfl

theorem resultE_sound {P : Program} {μ : Mu} {h : Heap} {n : Nat} {w : World} {fr : AAct} {a : Act} (hf : FRel μ fr a) (r : Rel P μ h n w) {x : ResultVar} {v : Value} (e : resultE P fr h x = some v) :
    ∃ v', (resOf a.tmps x).run P w = .ok v' w ∧ VRel μ v v' := by
  cases x with
  | tmp t =>
    simp only [resultE, Option.some.injEq] at e
    subst e
    exact ⟨_, rfl, hf.get t⟩
  | cell b t =>
    simp only [resultE] at e
    have hb := hf.get b
    obtain ⟨v', q1, q2⟩ := loadE_sound r hb e
    refine ⟨v', ?_, q2⟩
    unfold loadE at e
    split at e
    · rename_i b0 o0 hfr
      rw [hfr] at hb
      simp only [resOf]
      generalize a.tmps.getD b undef = z at hb q1
      cases hb with
      | ptr o hm =>
        simp only [asAddr, Sem.run_bind, Sem.run_pure, Result.andThen_ok]
        simpa [Instr.loadAt, Instr.sureAddr] using q1
    · cases e

theorem resultsE_sound {P : Program} {μ : Mu} {h : Heap} {n : Nat} {w : World} {fr : AAct} {a : Act} (hf : FRel μ fr a) (r : Rel P μ h n w) : ∀ {xs : List ResultVar} {vs : List Value}, resultsE P fr h xs = some vs →
    ∃ vs', (xs.mapM (m := Sem) (resOf a.tmps)).run P w = .ok vs' w ∧ LRel μ vs vs' := by
  intro xs
  induction xs with
  | nil => intro vs e; simp only [resultsE, Option.some.injEq] at e; subst e; exact ⟨[], rfl, .nil⟩
  | cons x xs ih =>
    intro vs e
    simp only [resultsE] at e
    split at e
    · rename_i v vs0 h1 h2
      simp only [Option.some.injEq] at e
      subst e
      obtain ⟨v', p1, p2⟩ := resultE_sound hf r h1
      obtain ⟨vs', q1, q2⟩ := ih h2
      refine ⟨v' :: vs', ?_, .cons p2 q2⟩
      simp only [List.mapM_cons, Sem.run_bind]
      rw [p1]
      simp only [Result.andThen_ok]
      rw [q1]
      rfl
    · cases e

theorem results_rel {P : Program} {μ : Mu} {h : Heap} {n : Nat} {w : World} {fr : AAct} {a : Act} (hf : FRel μ fr a) (r : Rel P μ h n w) {fn : Func} {vs : List Value} (e : resultsE P fr h fn.results.toList = some vs) :
    ∃ v', (results fn a.tmps).run P w = .ok v' w ∧ VRel μ (tupleE vs) v' := by
  obtain ⟨vs', q1, q2⟩ := resultsE_sound hf r e
  have hrun : (results fn a.tmps).run P w = .ok (if h : vs'.toArray.size = 1 then vs'.toArray[0] else .tuple vs'.toArray) w := by
    rw [results_eq]
    rw [Array.mapM_eq_mapM_toList]
    simp only [Sem.run_bind, Sem.run_map]
    rw [q1]
    simp only [Result.andThen_ok, Sem.run_pure]
  refine ⟨_, hrun, ?_⟩
  cases q2 with
  | nil => exact (LRel.arr .nil).tuple
  | cons hx ht =>
    cases ht with
    | nil => simpa [tupleE] using hx
    | cons hy ht2 => simpa [tupleE] using (LRel.arr (.cons hx (.cons hy ht2))).tuple

/-- What a body must come to. -/
def bodyA (P : Program) (fn : Func) (R : AEnd → Heap → Nat → Prop) : APost
  | .normal, fr, h, n | .ret, fr, h, n => fr.defers = [] ∧ ∃ vs, resultsE P fr h fn.results.toList = some vs ∧ R (.ret (tupleE vs)) h n
  | .pan v, fr, h, n => fr.defers = [] ∧ R (.pan v) h n
  | _, _, _, _ => False

theorem bodyA_panExt {P : Program} {fn : Func} {R : AEnd → Heap → Nat → Prop} {S : List Nat} : PanExt S (bodyA P fn R) := by
  intro x fr fr' h n e _ q
  exact ⟨e ▸ q.1, q.2⟩

theorem ACall.of_body {P : Program} {f : FuncId} {fn : Func} {c : Code} {args : List Value} {h : Heap} {n : Nat} {R : AEnd → Heap → Nat → Prop}
    (hf : P.funcs[f]? = some fn) (hb : fn.body = some c) (q : AWp P c (bodyA P fn R) (frameOf args fn.ntmps) h n) : ACall P f args.toArray h n R := by
  intro μ args' w ha hr
  have ha' : LRel μ args args'.toList := by have := ha.list; simpa using this
  have hfr := frameOf_rel ha' fn.ntmps
  rw [Array.toArray_toList] at hfr
  refine calls_of_wp hf hb (wp_mono (q μ _ w hfr hr) ?_)
  rintro e a' w' ⟨μ', x, fr', h', n', hx, hf', hr', hg, hn, q'⟩
  have hd : fr'.defers = [] → a'.defers = [] := by
    intro h0
    have := hf'.defers
    rw [h0] at this
    generalize a'.defers = z at this
    cases this; rfl
  cases hx with
  | normal =>
    obtain ⟨q1, vs, q2, q3⟩ := q'
    obtain ⟨v', p1, p2⟩ := results_rel hf' hr' q2
    exact ⟨hd q1, v', p1, μ', h', n', _, .ret p2, hr', hg, hn, q3⟩
  | ret =>
    obtain ⟨q1, vs, q2, q3⟩ := q'
    obtain ⟨v', p1, p2⟩ := results_rel hf' hr' q2
    exact ⟨hd q1, v', p1, μ', h', n', _, .ret p2, hr', hg, hn, q3⟩
  | pan hv => exact ⟨hd q'.1, μ', h', n', _, .pan hv, hr', hg, hn, q'.2⟩
  | exit id => exact q'.elim
  | goto l => exact q'.elim
end Go.Abs
