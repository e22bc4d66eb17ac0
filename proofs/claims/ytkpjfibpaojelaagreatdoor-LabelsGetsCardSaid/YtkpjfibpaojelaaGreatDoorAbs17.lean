/- Operations that act, in one function; calls of functions. -/
import Derived.Test.YtkpjfibpaojelaaGreatDoorAbs16
namespace Go.Abs
open Go

/-- What is asked of a program, once. -/
structure POk (P : Program) : Prop where
  mixed : P.follows .mixedOrders = true
  named : ∀ (f : Nat) (fn : Func), P.funcs[f]? = some fn → (fn.name == "runtime.NumGoroutine") = false

def calleeE (P : Program) (f : Value) (args : List Value) : Option (FuncId × List Value) :=
  match f with
  | .func (.func k) first captured =>
    match P.funcs[k]? with
    | some fn => if fn.body.isSome then some (k, (first.toList ++ args) ++ captured.toList) else none
    | none => none
  | _ => none

theorem calleeE_sound {P : Program} (ok : POk P) {μ : Mu} {f f' : Value} {args args' : List Value} (hf : VRel μ f f') (ha : LRel μ args args') {k : FuncId} {as : List Value} (e : calleeE P f args = some (k, as)) (w : World) :
    ∃ as' : List Value, (do let d ← Deferred.ofValue f' args'.toArray; invoke d.target d.args).run P w = .ok (.enter k as'.toArray) w ∧ LRel μ as as' := by
  unfold calleeE at e
  split at e
  · rename_i k0 first captured
    cases hf with
    | func fn h1 h2 h3 h4 =>
      rename_i first' captured'
      have hr1 : LRel μ first.toList first'.toList := ARel.list ⟨h1, h3⟩
      have hr2 : LRel μ captured.toList captured'.toList := ARel.list ⟨h2, h4⟩
      split at e
      · rename_i fn hfn
        split at e
        · rename_i hb
          cases e
          refine ⟨(first'.toList ++ args') ++ captured'.toList, ?_, (hr1.append ha).append hr2⟩
          have hn := ok.named _ fn hfn
          have hbn : fn.body.isNone = false := by cases hbb : fn.body <;> simp_all
          simp only [Deferred.ofValue, invoke, callFunc, Sem.run_bind, run_program, Result.andThen_ok, hfn, hn, Bool.false_eq_true, if_false, hbn, Sem.run_pure]
          congr 2
          apply Array.ext'
          simp
        · cases e
      · cases e
  · cases e

/-- What is deferred: a function's value, and what it is called with. -/
def deferE (f : Value) (args : List Value) : Option Deferred :=
  match f with
  | .func fn first captured => some { target := .fn fn captured, args := (first.toList ++ args).toArray }
  | _ => none

theorem deferE_sound {P : Program} {μ : Mu} {f f' : Value} {args args' : List Value} (hf : VRel μ f f') (ha : LRel μ args args') {d : Deferred} (e : deferE f args = some d) (w : World) :
    ∃ d', (Deferred.ofValue f' args'.toArray).run P w = .ok d' w ∧ DRel μ d d' := by
  unfold deferE at e
  split at e
  · rename_i fn first captured
    cases e
    cases hf with
    | func fn h1 h2 h3 h4 =>
      rename_i first' captured'
      have hr1 : LRel μ first.toList first'.toList := ARel.list ⟨h1, h3⟩
      refine ⟨{ target := .fn fn captured', args := first' ++ args'.toArray }, rfl, .fn fn ⟨h2, h4⟩, ?_⟩
      have := (hr1.append ha).arr
      have e2 : (first'.toList ++ args').toArray = first' ++ args'.toArray := by apply Array.ext'; simp
      rw [e2] at this
      exact this
  · cases e

/-- A string gone over rune by rune. -/
def nextStrE (s : ByteArray) (pos : Nat) : Option (Value × Nat) :=
  if pos < s.data.toList.length then
    let r := Utf8.decode s pos
    some (.tuple #[.bool true, .int .i64 pos, .int .i32 r.1], pos + r.2)
  else none

def bytesOfE (P : Program) (s d : TypeId) (x : Value) (h : Heap) (n : Nat) : Option (ARes × Heap × Nat) :=
  match P.underlying s, P.underlying d, x with
  | some .string, some (.slice e), .string b => match P.underlying e with
    | some (.int .u8) => some (.val (.slice (some ⟨n, 0, none⟩) b.data.toList.length U), h.set n (.cells (b.data.toList.map fun c => .int .u8 c.toNat) true ⟨e, 1, false⟩), n + 1)
    | _ => none
  | _, _, _ => none

theorem modify_push (a : Array Obj) (x : Obj) (f : Obj → Obj) : (a.push x).modify a.size f = a.push (f x) := by
  apply Array.ext
  · simp
  · intro i h1 h2
    rw [Array.getElem_modify (by simpa using h1)]
    by_cases e : a.size = i
    · subst e; simp
    · have : i < a.size := by simp at h2; omega
      rw [if_neg e, Array.getElem_push_lt this, Array.getElem_push_lt this]

theorem flat_bytes (l : List UInt8) : ((l.map fun c => Value.int .u8 c.toNat).all flat) = true := by
  rw [List.all_eq_true]
  intro y hy
  simp at hy
  obtain ⟨b, _, rfl⟩ := hy
  rfl

theorem bytesOfE_sound {P : Program} {μ : Mu} {h : Heap} {n : Nat} {w : World} (r : Rel P μ h n w) {s d : TypeId} {x x' : Value} (hx : VRel μ x x') {y : ARes × Heap × Nat} (e : bytesOfE P s d x h n = some y) :
    ARun P (do pure (.value (← convert s d x'))) μ h n w y := by
  unfold bytesOfE at e
  split at e
  · rename_i el b hs hd
    cases hx
    split at e
    · rename_i he
      cases e
      let cap := (Question.appendCap b.size 0 el).cut (w.tape w.drawn (.appendCap b.size 0 el))
      have hcap : b.size ≤ cap := Nat.le_add_right _ _
      obtain ⟨g1, g2⟩ := (Rel.of_heap (w := w) (w' := { w with drawn := w.drawn + 1 }) rfl r).row (rest := List.replicate (cap - b.size) (.int .u8 0)) (LRel.flat (flat_bytes b.data.toList)) el 1 false (by simp) (cap, cap + 1) (.inl (by simp; omega))
      refine ⟨_, _, ?_, g1, (Grow.drew μ h w _).trans g2, Nat.le_succ _⟩
      have hrun : (convert s d (.string b)).run P w = .ok (.slice (some ⟨w.heap.size, 0, none⟩) b.size cap) { w with drawn := w.drawn + 1, heap := w.heap.push (.cells ((b.data.toList.map fun c : UInt8 => Value.int .u8 (c.toNat : Int)) ++ List.replicate (cap - b.size) (Value.int .u8 0)).toArray el (cap, cap + 1)) } := by
        have hc : (convert s d (.string b)).run P w = (Conv.stringToBytes el b).run P w := by
          simp [convert, run_underlying_of hs, run_underlying_of hd, run_underlying_of he]
        rw [hc]
        have harr : (b.data.map (fun c => Value.int .u8 (c.toNat : Int)) ++ Array.replicate (cap - b.size) (.int .u8 0) : Array Value) = ((b.data.toList.map fun c : UInt8 => Value.int .u8 (c.toNat : Int)) ++ List.replicate (cap - b.size) (Value.int .u8 0)).toArray := by
          apply Array.ext'; simp
        simp only [Conv.stringToBytes, Sem.run_bind, run_choose, Question.forced, Bool.false_eq_true, if_false, Result.andThen_ok]
        rw [show (Question.appendCap b.size 0 el).cut (w.tape w.drawn (.appendCap b.size 0 el)) = cap from rfl, harr]
        simp only [newRow, run_newObj, Result.andThen_ok, markStringish, Sem.run_bind, run_shape, World.shape?]
        simp [World.freeze, hcap, modify_push]
      simp only [Sem.run_bind, hrun, Result.andThen_ok, Sem.run_pure]
      refine .val ?_
      have := VRel.newSlice (μ := μ) (n := n) (m := ⟨w.heap.size, 0, (b.data.toList.map fun c => Value.int .u8 c.toNat).length + (List.replicate (cap - b.size) (Value.int .u8 0)).length, 1⟩) rfl b.data.toList.length U cap (.inr ⟨rfl, by simpa using hcap, by simp; omega⟩)
      simpa using this
    · cases e
  · cases e
end Go.Abs
