/- Operations that act, some more: places seen without a type, the model's own entries, bytes as a string, copies. -/
import Derived.Test.YtkpjfibpaojelaaGreatDoorAbs17
import Derived.Lib.Bytealg
import Derived.Lib.MakeNoZero
namespace Go.Abs
open Go

theorem shape_of {w : World} {b : Nat} {c : Array Value} {e : TypeId} {f : Nat × Nat} (h : w.heap[b]? = some (.cells c e f)) : w.shape? b = some (e, c.size) := by
  simp [World.shape?, h]

theorem run_viewAt_cells {P : Program} {w : World} {b : Nat} {x : TypeId × Nat} (h : w.shape? b = some x) : (viewAt b).run P w = .ok none w := by
  simp [viewAt, h]

/-! Pointers, and places of no type. -/
def convPtrE (P : Program) (s d : TypeId) (x : Value) (h : Heap) : Option Value :=
  match P.underlying s, P.underlying d, x with
  | some (.pointer t), some .unsafePointer, .pointer (some ⟨b, o, none⟩) =>
    match h.get b, P.info? t with
    | some (.cells cs _ _), some i => if i.size ≠ 0 ∧ o < cs.length then some x else none
    | _, _ => none
  | some .unsafePointer, some (.pointer u), .pointer (some ⟨b, o, none⟩) =>
    match h.get b, P.info? u with
    | some (.cells cs _ ci), some _ => if ci.whole = true ∧ liesAt P P.depth ci.e (cs.length / P.cellsOf ci.e) o u 1 = true then some x else none
    | _, _ => none
  | _, _, _ => none

theorem convPtrE_sound {P : Program} {μ : Mu} {h : Heap} {n : Nat} {w : World} (r : Rel P μ h n w) {s d : TypeId} {x x' v : Value} (hx : VRel μ x x') (e : convPtrE P s d x h = some v) :
    (convert s d x').run P w = .ok x' w ∧ VRel μ v x' := by
  unfold convPtrE at e
  split at e
  · rename_i t b o hs hd
    split at e
    · rename_i cs own ci i hb hi
      split at e
      · rename_i hc
        cases e
        refine ⟨?_, hx⟩
        cases hx with
        | ptr _ hm =>
          rename_i m
          obtain ⟨m', y, f1, f2, f3⟩ := r.obj b _ hb
          rw [hm] at f1; cases f1
          cases y with
          | cells c el fr =>
            obtain ⟨g1, g2, _⟩ := f3
            have hsh := shape_of f2
            have hlt : ¬ c.size ≤ m.off + o := by omega
            simp [convert, Conv.unsafePointer, Conv.seenAt, run_underlying_of hs, run_underlying_of hd, run_viewAt_cells hsh, cellsIn, hsh, run_sizeOf_of hi, hc.1, hlt]
          | _ => exact f3.elim
      · cases e
    · cases e
  · rename_i u b o hs hd
    split at e
    · rename_i cs own ci i hb hi
      split at e
      · rename_i hc
        cases e
        refine ⟨?_, hx⟩
        cases hx with
        | ptr _ hm =>
          rename_i m
          obtain ⟨m', y, f1, f2, f3⟩ := r.obj b _ hb
          rw [hm] at f1; cases f1
          cases y with
          | cells c el fr =>
            obtain ⟨g1, g2, g3, g4, g5, g6, g7⟩ := f3
            obtain ⟨k1, k2⟩ := g7 hc.1
            subst g6
            have hsh := shape_of f2
            have hl : liesAt P P.depth ci.e (c.size / P.cellsOf ci.e) (m.off + o) u 1 = true := by rw [k1, k2, Nat.zero_add]; exact hc.2
            simp [convert, Conv.unsafePointer, Conv.seenAt, run_underlying_of hs, run_underlying_of hd, run_viewAt_cells hsh, variablesAt, hsh, run_sizeOf_of hi, hl]
          | _ => exact f3.elim
      · cases e
    · cases e
  · cases e

/-! The model's own entries. -/
inductive XFn where
  | same
  | fresh
  | indexByte

def xfnOf (fn : Func) : Option XFn :=
  if fn.body.isNone && fn.origin == "" then
    if fn.name == "internal/abi.NoEscape" then some .same
    else if fn.name == "internal/bytealg.MakeNoZero" then some .fresh
    else if fn.name == "internal/bytealg.IndexByteString" then some .indexByte
    else none
  else none

theorem next_none {fn : Func} (h1 : Extern.allNextRows.lookup fn.name = none) (h2 : Extern.allNextRows.lookup fn.origin = none) : Extern.findNext fn = none := by
  simp [Extern.findNext, h1, h2]
theorem find_all {fn : Func} {e : Array Value → Sem Value} (h1 : Extern.allGenericRows.lookup fn.name = none) (h2 : Extern.allTypedRows.lookup fn.name = none) (h3 : Extern.allRows.lookup fn.name = some e) : Extern.find fn = some e := by
  simp [Extern.find, h1, h2, h3]
theorem find_typed {fn : Func} {e : Extern.Typed} (h1 : Extern.allGenericRows.lookup fn.name = none) (h2 : Extern.allTypedRows.lookup fn.name = some e) : Extern.find fn = some (e fn.params fn.resultTypes) := by
  simp [Extern.find, h1, h2]

theorem next_empty : Extern.allNextRows.lookup "" = none := by kernel_rfl
theorem x1a : Extern.allNextRows.lookup "internal/abi.NoEscape" = none := by kernel_rfl
theorem x1b : Extern.allGenericRows.lookup "internal/abi.NoEscape" = none := by kernel_rfl
theorem x1c : Extern.allTypedRows.lookup "internal/abi.NoEscape" = none := by kernel_rfl
theorem x1d : Extern.allRows.lookup "internal/abi.NoEscape" = some Extern.AbiNoEscape.same := by kernel_rfl
theorem x2a : Extern.allNextRows.lookup "internal/bytealg.MakeNoZero" = none := by kernel_rfl
theorem x2b : Extern.allGenericRows.lookup "internal/bytealg.MakeNoZero" = none := by kernel_rfl
theorem x2c : Extern.allTypedRows.lookup "internal/bytealg.MakeNoZero" = some Extern.BytealgMakeNoZero.makeNoZero := by kernel_rfl
theorem x3a : Extern.allNextRows.lookup "internal/bytealg.IndexByteString" = none := by kernel_rfl
theorem x3b : Extern.allGenericRows.lookup "internal/bytealg.IndexByteString" = none := by kernel_rfl
theorem x3c : Extern.allTypedRows.lookup "internal/bytealg.IndexByteString" = none := by kernel_rfl
theorem x3d : Extern.allRows.lookup "internal/bytealg.IndexByteString" = some Extern.BytealgIndexByte.indexByte := by kernel_rfl

def runX (P : Program) (fn : Func) (k : XFn) (args : List Value) (h : Heap) (n : Nat) : Option (ARes × Heap × Nat) :=
  match k, args with
  | .same, [x] => some (.val x, h, n)
  | .fresh, [.int .i64 k] => match fn.resultTypes.toList with
    | [t] => match P.underlying t with
      | some (.slice e) => if 0 ≤ k ∧ k ≤ 281474976710656 then some (.val (.slice (some ⟨n, 0, none⟩) k.toNat U), h.set n (.cells [] true ⟨e, 1, false⟩), n + 1) else none
      | _ => none
    | _ => none
  | .indexByte, [.string s, .int .u8 c] => some (.val (.int .i64 (Lib.indexByte s.data.toList c.toNat.toUInt8)), h, n)
  | _, _ => none

def externE (P : Program) (f : Value) (args : List Value) (h : Heap) (n : Nat) : Option (ARes × Heap × Nat) :=
  match f with
  | .func (.func k) first captured =>
    match P.funcs[k]? with
    | some fn => match xfnOf fn with
      | some x => runX P fn x ((first.toList ++ args) ++ captured.toList) h n
      | none => none
    | none => none
  | _ => none

def entryOf (fn : Func) : XFn → Array Value → Sem Value
  | .same => Extern.AbiNoEscape.same
  | .fresh => Extern.BytealgMakeNoZero.makeNoZero fn.params fn.resultTypes
  | .indexByte => Extern.BytealgIndexByte.indexByte

theorem xfnOf_find {fn : Func} {x : XFn} (e : xfnOf fn = some x) : fn.body.isNone = true ∧ Extern.findNext fn = none ∧ Extern.find fn = some (entryOf fn x) := by
  unfold xfnOf at e
  split at e
  · rename_i hb
    simp only [Bool.and_eq_true, beq_iff_eq] at hb
    have ho := next_empty
    rw [← hb.2] at ho
    split at e
    · rename_i hn
      cases e
      simp only [beq_iff_eq] at hn
      exact ⟨hb.1, next_none (by rw [hn]; exact x1a) ho, find_all (by rw [hn]; exact x1b) (by rw [hn]; exact x1c) (by rw [hn]; exact x1d)⟩
    · split at e
      · rename_i hn
        cases e
        simp only [beq_iff_eq] at hn
        exact ⟨hb.1, next_none (by rw [hn]; exact x2a) ho, find_typed (by rw [hn]; exact x2b) (by rw [hn]; exact x2c)⟩
      · split at e
        · rename_i hn
          cases e
          simp only [beq_iff_eq] at hn
          exact ⟨hb.1, next_none (by rw [hn]; exact x3a) ho, find_all (by rw [hn]; exact x3b) (by rw [hn]; exact x3c) (by rw [hn]; exact x3d)⟩
        · cases e
  · cases e

theorem runX_sound {P : Program} {μ : Mu} {h : Heap} {n : Nat} {w : World} (r : Rel P μ h n w) {fn : Func} {k : XFn} {args args' : List Value} (ha : LRel μ args args') {y : ARes × Heap × Nat} (e : runX P fn k args h n = some y) :
    ARun P (do pure (.value (← entryOf fn k args'.toArray))) μ h n w y := by
  unfold runX at e
  split at e
  · cases e
    cases ha with
    | cons hx ht =>
    cases ht
    exact ⟨μ, w, .val hx, r, .refl _ _ _, Nat.le_refl _⟩
  · rename_i k
    cases ha with
    | cons hx ht =>
    cases ht
    cases hx
    split at e
    · rename_i t ht
      split at e
      · rename_i el hu
        split at e
        · rename_i hk
          cases e
          have hres : fn.resultTypes = #[t] := by apply Array.ext'; simpa using ht
          obtain ⟨k', rfl⟩ : ∃ k' : Nat, k = k' := ⟨k.toNat, by omega⟩
          obtain ⟨cs, q1, q2, _⟩ := Lib.run_makeNoZero w fn.params t el hu k' (by omega)
          obtain ⟨g1, g2⟩ := (Rel.of_heap (w := w) (w' := { w with drawn := w.drawn + 1 + 1 }) rfl r).row (xs := []) (xs' := []) (rest := cs.toList) .nil el 1 false (by simp) (0, 0) (.inr (Nat.le_refl _))
          refine ⟨_, _, ?_, g1, (Grow.drew μ h w _).trans g2, Nat.le_succ _⟩
          have hw : w.drew.drew.alloc (.cells cs el) = { w with drawn := w.drawn + 1 + 1, heap := w.heap.push (.cells ([] ++ cs.toList).toArray el (0, 0)) } := by
            rw [List.nil_append, Array.toArray_toList]
            rfl
          simp only [entryOf, hres, Sem.run_bind, q1, Result.andThen_ok, Sem.run_pure, hw]
          refine .val (.newSlice rfl _ _ _ (.inr ⟨rfl, by simpa using q2, by simp⟩))
        · cases e
      · cases e
    · cases e
  · rename_i s c
    cases ha with
    | cons hx ht =>
    cases ht with
    | cons hy ht =>
    cases ht
    cases hx; cases hy
    cases e
    refine ⟨μ, w, ?_, r, .refl _ _ _, Nat.le_refl _⟩
    simp only [entryOf, Sem.run_bind, Lib.run_indexByteString, Result.andThen_ok, Sem.run_pure]
    exact .val (.int _ _)
  · cases e

theorem externE_sound {P : Program} (ok : POk P) {μ : Mu} {h : Heap} {n : Nat} {w : World} (r : Rel P μ h n w) {f f' : Value} {args args' : List Value} (hf : VRel μ f f') (ha : LRel μ args args') {y : ARes × Heap × Nat} (e : externE P f args h n = some y) :
    ARun P (do let d ← Deferred.ofValue f' args'.toArray; invoke d.target d.args) μ h n w y := by
  unfold externE at e
  split at e
  · rename_i k0 first captured
    cases hf with
    | func fn h1 h2 h3 h4 =>
      rename_i first' captured'
      have hr1 : LRel μ first.toList first'.toList := ARel.list ⟨h1, h3⟩
      have hr2 : LRel μ captured.toList captured'.toList := ARel.list ⟨h2, h4⟩
      split at e
      · rename_i fn hfn
        split at e
        · rename_i x hx
          obtain ⟨b1, b2, b3⟩ := xfnOf_find hx
          obtain ⟨μ', w', q1, q2, q3, q4⟩ := runX_sound r ((hr1.append ha).append hr2) e
          refine ⟨μ', w', ?_, q2, q3, q4⟩
          have hn := ok.named _ fn hfn
          have harr : (first' ++ args'.toArray ++ captured') = (first'.toList ++ args' ++ captured'.toList).toArray := by apply Array.ext'; simp
          simp only [Deferred.ofValue, invoke, callFunc, Sem.run_bind, run_program, Result.andThen_ok, hfn, hn, Bool.false_eq_true, if_false, b1, if_true, run_mark, b2, b3, Sem.run_pure, harr]
          simp only [Sem.run_bind, Sem.run_pure] at q1
          exact q1
        · cases e
      · cases e
  · cases e
end Go.Abs
