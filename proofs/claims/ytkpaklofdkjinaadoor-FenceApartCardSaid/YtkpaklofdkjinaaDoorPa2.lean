/- texts of the claim, part 2: AbsC. -/
import Derived.Test.YtkpaklofdkjinaaDoorPa1
import Derived.Lib.Bytealg
import Derived.Lib.MakeNoZero
import Derived.Lib.UnsafeStr
import Derived.Laws.IdiomRangeMap
set_option linter.unusedVariables false
set_option linter.unusedSimpArgs false
set_option linter.unusedSectionVars false
/- Operations that act, some more: places seen without a type, the model's own entries, bytes as a string, copies. -/
namespace Go.Abs
open Go
theorem shape_of {w : World} {b : Nat} {c : Array Value} {e : TypeId} {f : Nat × Nat} (h : w.heap[b]? = some (.cells c e f)) : w.shape? b = some (e, c.size) := by
  simp [World.shape?, h]
theorem run_viewAt_cells {P : Program} {w : World} {b : Nat} {x : TypeId × Nat} (h : w.shape? b = some x) : (viewAt b).run P w = .ok none w := by
  simp [viewAt, h]
/-! Pointers, and places of no type. -/
def convPtrE (P : Program) (s d : TypeId) (x : Value) (h : Heap) : Option Value :=
  match P.underlying s, P.underlying d, x with
  | some (.pointer t), some .unsafePointer, .pointer (some ⟨b, o, none⟩) =>
    match h.get b, P.info? t with
    | some (.cells cs _ _), some i => if i.size ≠ 0 ∧ o < cs.length then some x else none
    | _, _ => none
  | some .unsafePointer, some (.pointer u), .pointer (some ⟨b, o, none⟩) =>
    match h.get b, P.info? u with
    | some (.cells cs _ ci), some _ => if ci.whole = true ∧ liesAt P P.depth ci.e (cs.length / P.cellsOf ci.e) o u 1 = true then some x else none
    | _, _ => none
  | _, _, _ => none
theorem convPtrE_sound {P : Program} {μ : Mu} {h : Heap} {n : Nat} {w : World} (r : Rel P μ h n w) {s d : TypeId} {x x' v : Value} (hx : VRel μ x x') (e : convPtrE P s d x h = some v) :
    (convert s d x').run P w = .ok x' w ∧ VRel μ v x' := by
  unfold convPtrE at e
  split at e
  · rename_i t b o hs hd
    split at e
    · rename_i cs own ci i hb hi
      split at e
      · rename_i hc
        cases e
        refine ⟨?_, hx⟩
        cases hx with
        | ptr _ hm =>
          rename_i m
          obtain ⟨m', y, f1, f2, f3⟩ := r.obj b _ hb
          rw [hm] at f1; cases f1
          cases y with
          | cells c el fr =>
            obtain ⟨g1, g2, _⟩ := f3
            have hsh := shape_of f2
            have hlt : ¬ c.size ≤ m.off + o := by omega
            simp [convert, Conv.unsafePointer, Conv.seenAt, run_underlying_of hs, run_underlying_of hd, run_viewAt_cells hsh, cellsIn, hsh, run_sizeOf_of hi, hc.1, hlt]
          | _ => exact f3.elim
      · cases e
    · cases e
  · rename_i u b o hs hd
    split at e
    · rename_i cs own ci i hb hi
      split at e
      · rename_i hc
        cases e
        refine ⟨?_, hx⟩
        cases hx with
        | ptr _ hm =>
          rename_i m
          obtain ⟨m', y, f1, f2, f3⟩ := r.obj b _ hb
          rw [hm] at f1; cases f1
          cases y with
          | cells c el fr =>
            obtain ⟨g1, g2, g3, g4, g5, g6, g7⟩ := f3
            obtain ⟨k1, k2⟩ := g7 hc.1
            subst g6
            have hsh := shape_of f2
            have hl : liesAt P P.depth ci.e (c.size / P.cellsOf ci.e) (m.off + o) u 1 = true := by rw [k1, k2, Nat.zero_add]; exact hc.2
            simp [convert, Conv.unsafePointer, Conv.seenAt, run_underlying_of hs, run_underlying_of hd, run_viewAt_cells hsh, variablesAt, hsh, run_sizeOf_of hi, hl]
          | _ => exact f3.elim
      · cases e
    · cases e
  · cases e
/-! The model's own entries. -/
inductive XFn where
  | same
  | fresh
  | indexByte
  | mapClone
def xfnOf (fn : Func) : Option XFn :=
  if fn.body.isNone && fn.origin == "" then
    if fn.name == "internal/abi.NoEscape" then some .same
    else if fn.name == "internal/bytealg.MakeNoZero" then some .fresh
    else if fn.name == "internal/bytealg.IndexByteString" then some .indexByte
    else if fn.name == "maps.clone" then some .mapClone
    else none
  else none
theorem next_none {fn : Func} (h1 : Extern.allNextRows.lookup fn.name = none) (h2 : Extern.allNextRows.lookup fn.origin = none) : Extern.findNext fn = none := by
  simp [Extern.findNext, h1, h2]
theorem find_all {fn : Func} {e : Array Value → Sem Value} (h1 : Extern.allGenericRows.lookup fn.name = none) (h2 : Extern.allTypedRows.lookup fn.name = none) (h3 : Extern.allRows.lookup fn.name = some e) : Extern.find fn = some e := by
  simp [Extern.find, h1, h2, h3]
theorem find_typed {fn : Func} {e : Extern.Typed} (h1 : Extern.allGenericRows.lookup fn.name = none) (h2 : Extern.allTypedRows.lookup fn.name = some e) : Extern.find fn = some (e fn.params fn.resultTypes) := by
  simp [Extern.find, h1, h2]
theorem next_empty : Extern.allNextRows.lookup "" = none := by kernel_rfl
theorem x1a : Extern.allNextRows.lookup "internal/abi.NoEscape" = none := by kernel_rfl
theorem x1b : Extern.allGenericRows.lookup "internal/abi.NoEscape" = none := by kernel_rfl
theorem x1c : Extern.allTypedRows.lookup "internal/abi.NoEscape" = none := by kernel_rfl
theorem x1d : Extern.allRows.lookup "internal/abi.NoEscape" = some Extern.AbiNoEscape.same := by kernel_rfl
theorem x2a : Extern.allNextRows.lookup "internal/bytealg.MakeNoZero" = none := by kernel_rfl
theorem x2b : Extern.allGenericRows.lookup "internal/bytealg.MakeNoZero" = none := by kernel_rfl
theorem x2c : Extern.allTypedRows.lookup "internal/bytealg.MakeNoZero" = some Extern.BytealgMakeNoZero.makeNoZero := by kernel_rfl
theorem x3a : Extern.allNextRows.lookup "internal/bytealg.IndexByteString" = none := by kernel_rfl
theorem x3b : Extern.allGenericRows.lookup "internal/bytealg.IndexByteString" = none := by kernel_rfl
theorem x3c : Extern.allTypedRows.lookup "internal/bytealg.IndexByteString" = none := by kernel_rfl
theorem x3d : Extern.allRows.lookup "internal/bytealg.IndexByteString" = some Extern.BytealgIndexByte.indexByte := by kernel_rfl
theorem x4a : Extern.allNextRows.lookup "maps.clone" = none := by kernel_rfl
theorem x4b : Extern.allGenericRows.lookup "maps.clone" = none := by kernel_rfl
theorem x4c : Extern.allTypedRows.lookup "maps.clone" = none := by kernel_rfl
theorem x4d : Extern.allRows.lookup "maps.clone" = some Extern.MapsClone.clone := by kernel_rfl
def runX (P : Program) (fn : Func) (k : XFn) (args : List Value) (h : Heap) (n : Nat) : Option (ARes × Heap × Nat) :=
  match k, args with
  | .same, [x] => some (.val x, h, n)
  | .fresh, [.int .i64 k] => match fn.resultTypes.toList with
    | [t] => match P.underlying t with
      | some (.slice e) => if 0 ≤ k ∧ k ≤ 281474976710656 then some (.val (.slice (some ⟨n, 0, none⟩) k.toNat U), h.set n (.cells [] true ⟨e, 1, false⟩), n + 1) else none
      | _ => none
    | _ => none
  | .indexByte, [.string s, .int .u8 c] => some (.val (.int .i64 (Lib.indexByte s.data.toList c.toNat.toUInt8)), h, n)
  | .mapClone, [.iface t (.map (some b))] => match h.get b with
    | some (.map es clock) => some (.val (.iface t (.map (some n))), h.set n (.map es clock), n + 1)
    | _ => none
  | _, _ => none
def externE (P : Program) (f : Value) (args : List Value) (h : Heap) (n : Nat) : Option (ARes × Heap × Nat) :=
  match f with
  | .func (.func k) first captured =>
    match P.funcs[k]? with
    | some fn => match xfnOf fn with
      | some x => runX P fn x ((first.toList ++ args) ++ captured.toList) h n
      | none => none
    | none => none
  | _ => none
def entryOf (fn : Func) : XFn → Array Value → Sem Value
  | .same => Extern.AbiNoEscape.same
  | .fresh => Extern.BytealgMakeNoZero.makeNoZero fn.params fn.resultTypes
  | .indexByte => Extern.BytealgIndexByte.indexByte
  | .mapClone => Extern.MapsClone.clone
theorem xfnOf_find {fn : Func} {x : XFn} (e : xfnOf fn = some x) : fn.body.isNone = true ∧ Extern.findNext fn = none ∧ Extern.find fn = some (entryOf fn x) := by
  unfold xfnOf at e
  split at e
  · rename_i hb
    simp only [Bool.and_eq_true, beq_iff_eq] at hb
    have ho := next_empty
    rw [← hb.2] at ho
    split at e
    · rename_i hn
      cases e
      simp only [beq_iff_eq] at hn
      exact ⟨hb.1, next_none (by rw [hn]; exact x1a) ho, find_all (by rw [hn]; exact x1b) (by rw [hn]; exact x1c) (by rw [hn]; exact x1d)⟩
    · split at e
      · rename_i hn
        cases e
        simp only [beq_iff_eq] at hn
        exact ⟨hb.1, next_none (by rw [hn]; exact x2a) ho, find_typed (by rw [hn]; exact x2b) (by rw [hn]; exact x2c)⟩
      · split at e
        · rename_i hn
          cases e
          simp only [beq_iff_eq] at hn
          exact ⟨hb.1, next_none (by rw [hn]; exact x3a) ho, find_all (by rw [hn]; exact x3b) (by rw [hn]; exact x3c) (by rw [hn]; exact x3d)⟩
        · split at e
          · rename_i hn
            cases e
            simp only [beq_iff_eq] at hn
            exact ⟨hb.1, next_none (by rw [hn]; exact x4a) ho, find_all (by rw [hn]; exact x4b) (by rw [hn]; exact x4c) (by rw [hn]; exact x4d)⟩
          · cases e
  · cases e
theorem runX_sound {P : Program} {μ : Mu} {h : Heap} {n : Nat} {w : World} (r : Rel P μ h n w) {fn : Func} {k : XFn} {args args' : List Value} (ha : LRel μ args args') {y : ARes × Heap × Nat} (e : runX P fn k args h n = some y) :
    ARun P (do pure (.value (← entryOf fn k args'.toArray))) μ h n w y := by
  unfold runX at e
  split at e
  · cases e
    cases ha with
    | cons hx ht =>
    cases ht
    exact ⟨μ, w, .val hx, r, .refl _ _ _, Nat.le_refl _⟩
  · rename_i k
    cases ha with
    | cons hx ht =>
    cases ht
    cases hx
    split at e
    · rename_i t ht
      split at e
      · rename_i el hu
        split at e
        · rename_i hk
          cases e
          have hres : fn.resultTypes = #[t] := by apply Array.ext'; simpa using ht
          obtain ⟨k', rfl⟩ : ∃ k' : Nat, k = k' := ⟨k.toNat, by omega⟩
          obtain ⟨cs, q1, q2, _⟩ := Lib.run_makeNoZero w fn.params t el hu k' (by omega)
          obtain ⟨g1, g2⟩ := (Rel.of_heap (w := w) (w' := { w with drawn := w.drawn + 1 + 1 }) rfl r).row (xs := []) (xs' := []) (rest := cs.toList) .nil el 1 false (by simp) (0, 0) (.inr (Nat.le_refl _))
          refine ⟨_, _, ?_, g1, (Grow.drew μ h w _).trans g2, Nat.le_succ _⟩
          have hw : w.drew.drew.alloc (.cells cs el) = { w with drawn := w.drawn + 1 + 1, heap := w.heap.push (.cells ([] ++ cs.toList).toArray el (0, 0)) } := by
            rw [List.nil_append, Array.toArray_toList]
            rfl
          simp only [entryOf, hres, Sem.run_bind, q1, Result.andThen_ok, Sem.run_pure, hw]
          refine .val (.newSlice rfl _ _ _ (.inr ⟨rfl, by simpa using q2, by simp⟩))
        · cases e
      · cases e
    · cases e
  · rename_i s c
    cases ha with
    | cons hx ht =>
    cases ht with
    | cons hy ht =>
    cases ht
    cases hx; cases hy
    cases e
    refine ⟨μ, w, ?_, r, .refl _ _ _, Nat.le_refl _⟩
    simp only [entryOf, Sem.run_bind, Lib.run_indexByteString, Result.andThen_ok, Sem.run_pure]
    exact .val (.int _ _)
  · rename_i t b
    cases ha with
    | cons hx ht =>
    cases ht
    cases hx with
    | iface _ hx =>
    cases hx with
    | map hmu =>
    rename_i m0
    split at e
    · rename_i es clock hb
      cases e
      obtain ⟨es', f2, f3, he, hget, hset⟩ := r.mapAt hb hmu
      have hle : μ.le (μ.set n ⟨w.heap.size, 0, 0, 0⟩) := Mu.le_set (r.bound n (Nat.le_refl _))
      have f4 := f3.mono hle
      obtain ⟨g1, g2⟩ := r.push (.map es clock) (.map es' clock) ⟨w.heap.size, 0, 0, 0⟩ rfl r.globs ⟨rfl, f4.2⟩
      refine ⟨_, _, ?_, g1, g2, Nat.le_succ _⟩
      have hrun : (do pure (.value (← entryOf fn .mapClone [.iface t (.map (some m0.blk))].toArray)) : Sem Next).run P w = .ok (.value (.iface t (.map (some w.heap.size)))) { w with heap := w.heap.push (.map es' clock) } := by
        have hc : entryOf fn .mapClone [.iface t (.map (some m0.blk))].toArray = (getObj m0.blk >>= fun o => match o with
          | .map entries clock => newObj (.map entries clock) >>= fun i => pure (.iface t (.map (some i)))
          | _ => stuck "maps.clone: a map expected") := rfl
        rw [hc]
        simp [hget]
      rw [hrun]
      exact .val (.iface t (.map (m := ⟨w.heap.size, 0, 0, 0⟩) (Mu.set_same _ _ _)))
    · cases e
  · cases e
theorem externE_sound {P : Program} (ok : POk P) {μ : Mu} {h : Heap} {n : Nat} {w : World} (r : Rel P μ h n w) {f f' : Value} {args args' : List Value} (hf : VRel μ f f') (ha : LRel μ args args') {y : ARes × Heap × Nat} (e : externE P f args h n = some y) :
    ARun P (do let d ← Deferred.ofValue f' args'.toArray; invoke d.target d.args) μ h n w y := by
  unfold externE at e
  split at e
  · rename_i k0 first captured
    cases hf with
    | func fn h1 h2 h3 h4 =>
      rename_i first' captured'
      have hr1 : LRel μ first.toList first'.toList := ARel.list ⟨h1, h3⟩
      have hr2 : LRel μ captured.toList captured'.toList := ARel.list ⟨h2, h4⟩
      split at e
      · rename_i fn hfn
        split at e
        · rename_i x hx
          obtain ⟨b1, b2, b3⟩ := xfnOf_find hx
          obtain ⟨μ', w', q1, q2, q3, q4⟩ := runX_sound r ((hr1.append ha).append hr2) e
          refine ⟨μ', w', ?_, q2, q3, q4⟩
          have hn := ok.named _ fn hfn
          have harr : (first' ++ args'.toArray ++ captured') = (first'.toList ++ args' ++ captured'.toList).toArray := by apply Array.ext'; simp
          simp only [Deferred.ofValue, invoke, callFunc, Sem.run_bind, run_program, Result.andThen_ok, hfn, hn, Bool.false_eq_true, if_false, b1, if_true, run_mark, b2, b3, Sem.run_pure, harr]
          simp only [Sem.run_bind, Sem.run_pure] at q1
          exact q1
        · cases e
      · cases e
  · cases e
end Go.Abs
/- Built-ins that act: a slice's first place, bytes told as a string, copy, clear. -/
namespace Go.Abs
open Go
def dataE (args : List Value) (h : Heap) (n : Nat) : Option (ARes × Heap × Nat) :=
  match args with
  | [.slice none 0 0] => some (.val (.pointer none), h, n)
  | [.slice (some ⟨b, o, none⟩) len cap] => if (cap < U ∧ cap ≠ 0) ∨ (cap = U ∧ len ≠ 0) then some (.val (.pointer (some ⟨b, o, none⟩)), h, n) else none
  | _ => none
theorem dataE_sound {P : Program} {μ : Mu} {h : Heap} {n : Nat} {w : World} (r : Rel P μ h n w) (ts : Array TypeId) {args args' : List Value} (ha : LRel μ args args') {y : ARes × Heap × Nat} (e : dataE args h n = some y) (ty : TypeId) :
    ARun P (do pure (.value (← Builtin.unsafeSliceData_ ts ty args'.toArray))) μ h n w y := by
  unfold dataE at e
  split at e
  · cases e
    cases ha with
    | cons hx ht =>
    cases ht; cases hx
    refine ⟨μ, w, ?_, r, .refl _ _ _, Nat.le_refl _⟩
    simp only [Sem.run_bind, Lib.run_unsafeSliceData_nil, Result.andThen_ok, Sem.run_pure]
    exact .val .pnil
  · rename_i b o len cap
    split at e
    · rename_i hc
      cases e
      cases ha with
      | cons hx ht =>
      cases ht
      cases hx with
      | slice _ _ _ cap' hm hcc =>
        refine ⟨μ, w, ?_, r, .refl _ _ _, Nat.le_refl _⟩
        have hcap : cap' ≠ 0 := by omega
        simp only [Sem.run_bind, Lib.run_unsafeSliceData_row w ts ty _ _ _ hcap, Result.andThen_ok, Sem.run_pure]
        exact .val (.ptr o hm)
      | szero _ _ a' => exact (hc.elim (fun q => q.2 rfl) (fun q => q.2 rfl)).elim
    · cases e
  · cases e
theorem liesAt_row {P : Program} {e : TypeId} (hc : P.cellsOf e = 1) (count off n : Nat) (hn : off + n ≤ count) : liesAt P P.depth e count off e n = true := by
  have hd : P.depth = (2 * (P.types.size + Made.depth) + 1) + 1 := rfl
  rw [hd]
  simp only [liesAt, Bool.or_eq_true]
  left
  rw [hd]
  simp [rowAt, hc, hn, sameLayout, Nat.mod_one]
/-- Bytes as a string, that share its memory: the row is not to be written any more. -/
def bytesStrE (P : Program) (ts : List TypeId) (args : List Value) (h : Heap) (n : Nat) : Option (ARes × Heap × Nat) :=
  match ts, args with
  | pt :: _, [.pointer (some ⟨b, o, none⟩), .int .i64 len] =>
    match P.underlying pt, h.get b with
    | some (.pointer e), some (.cells cs true ci) =>
      if ci.e = e ∧ P.cellsOf e = 1 ∧ 0 < len ∧ len ≤ 9223372036854775807 then
        match rowE h b o len.toNat with
        | some xs => match bytesE xs with
          | some ns => some (.val (.string ⟨(ns.map fun n => UInt8.ofNat n.toNat).toArray⟩), h.set b (.cells cs false ci), n)
          | none => none
        | none => none
      else none
    | _, _ => none
  | _, [.pointer none, .int .i64 0] => some (.val (.string ⟨#[]⟩), h, n)
  | _, _ => none
theorem run_loadBytesInt {P : Program} {w : World} : ∀ (l : List Int) (a : Addr) (acc : ByteArray), (∀ j x, l[j]? = some x → w.cell? (a.add j) = some (.int .u8 x)) →
    (loadBytes a acc l.length).run P w = .ok ⟨acc.data ++ (l.map fun x => UInt8.ofNat x.toNat).toArray⟩ w
  | [], a, acc, _ => by simp [loadBytes]
  | x :: l, a, acc, h => by
    have h0 : w.cell? a = some (.int .u8 x) := by
      have := h 0 x rfl
      simpa [Addr.add] using this
    have ih := run_loadBytesInt (P := P) (w := w) l (a.add 1) (acc.push x.toNat.toUInt8) (fun j y hy => by
      have := h (j + 1) y (by simpa using hy)
      have e : (a.add 1).add j = a.add (j + 1) := by
        unfold Addr.add
        by_cases hj : j = 0
        · subst hj; simp
        · simp [hj]; omega
      rw [e]; exact this)
    simp only [List.length_cons, loadBytes, Sem.run_bind, run_load, h0, Result.andThen]
    rw [ih]
    congr 1
    apply ByteArray.ext
    simp [ByteArray.push]
theorem bytesStrE_sound {P : Program} {μ : Mu} {h : Heap} {n : Nat} {w : World} (r : Rel P μ h n w) {ts : Array TypeId} {args args' : List Value} (ha : LRel μ args args') {y : ARes × Heap × Nat} (e : bytesStrE P ts.toList args h n = some y) (ty : TypeId) (hts : ∃ pt it, ts = #[pt, it]) :
    ARun P (do pure (.value (← Builtin.unsafeString_ ts ty args'.toArray))) μ h n w y := by
  obtain ⟨pt0, it0, rfl⟩ := hts
  unfold bytesStrE at e
  split at e
  · rename_i pt rest b o len hts
    simp only [List.cons.injEq] at hts
    obtain ⟨rfl, -⟩ := hts
    cases ha with
    | cons hx ht =>
    cases ht with
    | cons hy ht =>
    cases ht
    cases hy
    split at e
    · rename_i el cs ci hu hb
      split at e
      · rename_i hc
        obtain ⟨c1, c2, c3, c4⟩ := hc
        split at e
        · rename_i xs hrow
          split at e
          · rename_i ns hns
            cases e
            cases hx with
            | ptr _ hm =>
            rename_i m
            obtain ⟨m', xs', f1, f2, f3, f4, f5⟩ := rowE_sound r hm hrow
            rw [hm] at f1; cases f1
            rw [bytesE_eq hns] at f5 f3
            have hxs' : xs' = ns.map (Value.int .u8) := by
              have := f5.list
              simp only at this
              exact this.ints
            obtain ⟨m', x1, k1, k2, k3⟩ := r.obj b _ hb
            rw [hm] at k1; cases k1
            cases x1 with
            | cells c e2 fr =>
              obtain ⟨g1, g2, g3, g4, g5, g6, g7⟩ := k3
              have hrl : o + len.toNat ≤ cs.length := by
                unfold rowE at hrow
                rw [if_neg (by omega), hb] at hrow
                simp only at hrow
                split at hrow
                · assumption
                · cases hrow
              have hnl : ns.length = len.toNat := by simpa using f3
              have hturn := r.turn (o' := .cells cs false ci) (.cells c e2 (if fr.1 == fr.2 then (m.off + o, m.off + o + len.toNat) else (min fr.1 (m.off + o), max fr.2 (m.off + o + len.toNat)))) hb rfl hm
                ⟨g1, g2, g3, by simp, g5, g6, g7⟩ (w' := { w with heap := w.heap.setIfInBounds m.blk (.cells c e2 (if fr.1 == fr.2 then (m.off + o, m.off + o + len.toNat) else (min fr.1 (m.off + o), max fr.2 (m.off + o + len.toNat)))) }) rfl rfl rfl rfl
              refine ⟨μ, _, ?_, hturn.1, hturn.2, Nat.le_refl _⟩
              have hsh := shape_of k2
              have hl : liesAt P P.depth e2 (c.size / P.cellsOf e2) (m.off + o) el len.toNat = true := by
                rw [g6, c1, c2, Nat.div_one]
                exact liesAt_row c2 _ _ _ (by omega)
              have hload := run_loadBytesInt (P := P) (w := w) ns ⟨m.blk, m.off + o, none⟩ .empty (fun j x hj => by
                rw [Addr.add_plain]
                exact f4 j _ (by rw [hxs', List.getElem?_map, hj]; rfl))
              rw [hnl] at hload
              have hfreeze : w.freeze ⟨m.blk, m.off + o, none⟩ len.toNat = { w with heap := w.heap.setIfInBounds m.blk (.cells c e2 (if fr.1 == fr.2 then (m.off + o, m.off + o + len.toNat) else (min fr.1 (m.off + o), max fr.2 (m.off + o + len.toNat)))) } := by
                have : len.toNat ≠ 0 := by omega
                simp only [World.freeze, if_neg this]
                rw [modify_of k2]
              have h1 : ¬ len < 0 := by omega
              have h2 : ¬ 9223372036854775807 < len := by omega
              have h3 : len ≠ 0 := by omega
              have hrun : (Builtin.unsafeString_ #[pt0, it0] ty [Value.pointer (some ⟨m.blk, m.off + o, none⟩), Value.int .i64 len].toArray).run P w = .ok (.string ⟨(ns.map fun n => UInt8.ofNat n.toNat).toArray⟩) (w.freeze ⟨m.blk, m.off + o, none⟩ len.toNat) := by
                have hdef : Builtin.unsafeString_ #[pt0, it0] ty [Value.pointer (some ⟨m.blk, m.off + o, none⟩), Value.int .i64 len].toArray =
                  (do
                    let n ← asInt (.int .i64 len)
                    if n < 0 then runtimePanic (.error "unsafe.String: len out of range")
                    if n > IntKind.i64.max then unsupported (.unsafePointer "String: a length above the largest int")
                    if n = 0 then pure (.string .empty)
                    else if ← variablesAt ⟨m.blk, m.off + o, none⟩ (← elemOf pt0) n.toNat then do
                      let s ← loadBytes ⟨m.blk, m.off + o, none⟩ .empty n.toNat
                      freeze ⟨m.blk, m.off + o, none⟩ n.toNat
                      pure (.string s)
                    else unsupported (.unsafePointer "String: not so many bytes at ptr")) := rfl
                rw [hdef]
                simp [asInt, asIntOf, h1, h2, h3, elemOf, run_underlying_of hu, variablesAt, hsh, hl, hload]
              simp only [Sem.run_bind, hrun, Result.andThen_ok, Sem.run_pure, hfreeze]
              exact .val (.string _)
            | _ => exact k3.elim
          · cases e
        · cases e
      · cases e
    · cases e
  · rename_i hne
    cases e
    cases ha with
    | cons hx ht =>
    cases ht with
    | cons hy ht =>
    cases ht
    cases hx; cases hy
    refine ⟨μ, w, ?_, r, .refl _ _ _, Nat.le_refl _⟩
    have := Lib.run_unsafeString_none (P := P) w pt0 it0 ty none
    simp only [Sem.run_bind, this, Result.andThen_ok, Sem.run_pure]
    exact .val (.string _)
  · cases e
/-! copy. -/
def copyE (P : Program) (ts : List TypeId) (args : List Value) (h : Heap) (n : Nat) : Option (ARes × Heap × Nat) :=
  match ts, args with
  | dt :: _, [.slice base dLen _, x] => match P.underlying dt with
    | some (.slice el) => match P.info? el with
      | some i =>
        let sLen : Option Nat := match x with
          | .slice _ l _ => some l
          | .string s => some s.data.toList.length
          | _ => none
        match sLen with
        | none => none
        | some sl =>
          let k := min sl dLen
          let src : Option (List Value) := match x with
            | .slice (some ⟨b, o, none⟩) _ _ => if k = 0 then some [] else rowE h b o (k * i.size)
            | .slice none _ _ => some []
            | .string s => if i.size = 1 then some ((s.data.toList.take k).map fun b => .int .u8 b.toNat) else none
            | _ => none
          match src with
          | none => none
          | some xs =>
            if xs.isEmpty then some (.val (.int .i64 k), h, n)
            else match base with
              | some ⟨b, o, none⟩ => match h.get b with
                | some (.cells cs true ci) => if xs.all (fun x => x.oneCell') = true ∧ o + xs.length ≤ cs.length then some (.val (.int .i64 k), h.set b (.cells (setAll cs o xs) true ci), n) else none
                | _ => none
              | _ => none
      | none => none
    | _ => none
  | _, _ => none
theorem run_loadCells_zero {P : Program} {w : World} (a : Addr) : (loadCells a 0).run P w = .ok #[] w := by
  have := run_loadCells (P := P) (w := w) (b := a.block) (o := a.off) [] (by simp)
  rfl
theorem copyE_sound {P : Program} {μ : Mu} {h : Heap} {n : Nat} {w : World} (r : Rel P μ h n w) {ts : Array TypeId} {args args' : List Value} (ha : LRel μ args args') {y : ARes × Heap × Nat} (e : copyE P ts.toList args h n = some y) (ty : TypeId) :
    ARun P (do pure (.value (← Builtin.copy_ ts ty args'.toArray))) μ h n w y := by
  unfold copyE at e
  split at e
  · rename_i dt rest base dLen cap x hts
    have h0 : ts[0]? = some dt := by rw [← Array.getElem?_toList, hts]; rfl
    cases ha with
    | cons hd ht =>
    cases ht with
    | cons hx ht =>
    cases ht
    rename_i d' x'
    split at e
    · rename_i el hu
      split at e
      · rename_i i hi
        simp only at e
        split at e
        · cases e
        · rename_i sl hsl
          split at e
          · cases e
          · rename_i xs hsrc
            have key : ∃ xs' : List Value, LRel μ xs xs' ∧ (Builtin.lenOf x').run P w = .ok sl w ∧ (Builtin.firstCells i.size (min sl dLen) x').run P w = .ok xs'.toArray w := by
              split at hsrc
              · rename_i b o l c
                simp only [Option.some.injEq] at hsl; subst hsl
                cases hx with
                | slice _ _ _ cap' hm hc =>
                  split at hsrc
                  · rename_i hk
                    cases hsrc
                    refine ⟨[], .nil, rfl, ?_⟩
                    simp only [Builtin.firstCells, hk, Nat.zero_mul]
                    exact run_loadCells_zero _
                  · obtain ⟨m, xs', f1, f2, f3, f4, f5⟩ := rowE_sound r hm hsrc
                    rw [hm] at f1; cases f1
                    refine ⟨xs', f5.list, rfl, ?_⟩
                    simp only [Builtin.firstCells]
                    rw [← f2]
                    exact run_loadCells xs' f4
                | szero _ _ a' =>
                  split at hsrc
                  · rename_i hk
                    cases hsrc
                    refine ⟨[], .nil, rfl, ?_⟩
                    simp only [Builtin.firstCells, hk, Nat.zero_mul]
                    exact run_loadCells_zero _
                  · rename_i hk
                    exact absurd (by simp) hk
              · simp only [Option.some.injEq] at hsl; subst hsl
                cases hsrc
                cases hx
                exact ⟨[], .nil, rfl, rfl⟩
              · rename_i s
                simp only [Option.some.injEq] at hsl; subst hsl
                cases hx
                split at hsrc
                · cases hsrc
                  refine ⟨_, LRel.flat (by rw [List.all_eq_true]; intro y hy; obtain ⟨b, _, rfl⟩ := List.mem_map.1 hy; rfl), by simp [Builtin.lenOf], ?_⟩
                  simp only [Builtin.firstCells, Sem.run_pure]
                  congr 1
                  apply Array.ext'
                  simp
                · cases hsrc
              · cases hsrc
            obtain ⟨xs', l1, l2, l3⟩ := key
            split at e
            · rename_i hemp
              cases e
              have hxs : xs = [] := by simpa using hemp
              subst hxs
              cases l1
              refine ⟨μ, w, ?_, r, .refl _ _ _, Nat.le_refl _⟩
              have l3' : (Builtin.firstCells i.size (Nat.min sl dLen) x').run P w = .ok #[] w := l3
              have hrun : (Builtin.copy_ ts ty [d', x'].toArray).run P w = .ok (goInt (Nat.min sl dLen)) w := by
                generalize hq : Nat.min sl dLen = q at l3'
                cases hd <;> (try rw [show Nat.min sl 0 = q from hq]) <;> simp [Builtin.copy_, h0, run_underlying_of hu, l2, run_sizeOf_of hi, hq, l3', storeCells] <;> (have hz : q = 0 := by rw [← hq]; simp) <;> subst hz <;> simp [l3'] <;> rfl
              simp only [Sem.run_bind, hrun, Result.andThen_ok, Sem.run_pure]
              exact .val (.int _ _)
            · split at e
              · rename_i b o
                split at e
                · rename_i cs ci hb
                  split at e
                  · rename_i hc
                    cases e
                    cases hd with
                    | slice _ _ _ cap' hm hcc =>
                      obtain ⟨w', q1, h2, q2, r2, g2⟩ := run_storeCells hm xs xs' h w cs o 0 r hb l1.arr hc.1 (by omega)
                      have hext : ∀ j, (h.set b (.cells (setAll cs o xs) true ci)).get j = h2.get j := by
                        intro j; rw [q2 j, Trie.get_set]; rfl
                      refine ⟨μ, w', ?_, r2.ext hext, g2.ext hext, Nat.le_refl _⟩
                      have l3' : (Builtin.firstCells i.size (Nat.min sl dLen) x').run P w = .ok xs'.toArray w := l3
                      simp [Builtin.copy_, h0, run_underlying_of hu, l2, run_sizeOf_of hi, l3', q1]
                      exact .val (.int _ _)
                    | szero _ _ a' =>
                      have hx0 : xs = [] := by
                        rw [Nat.min_zero] at hsrc
                        split at hsrc
                        · rw [if_pos rfl] at hsrc; exact (Option.some.inj hsrc).symm
                        · exact (Option.some.inj hsrc).symm
                        · split at hsrc
                          · simpa using hsrc.symm
                          · cases hsrc
                        · cases hsrc
                      subst hx0
                      simp_all
                  · cases e
                · cases e
              · cases e
      · cases e
    · cases e
  · cases e
/-! clear. -/
def clearE (P : Program) (ts : List TypeId) (args : List Value) (h : Heap) (n : Nat) : Option (ARes × Heap × Nat) :=
  match ts, args with
  | t :: _, [x] => match P.underlying t, x with
    | some (.slice _), .slice none _ _ => some (.val (.tuple #[]), h, n)
    | some (.slice _), .slice (some _) 0 _ => some (.val (.tuple #[]), h, n)
    | some (.slice el), .slice (some ⟨b, o, none⟩) len _ => match zeroOf P el, h.get b with
      | some z, some (.cells cs true ci) =>
        let xs := (Builtin.zeroCells z.cells len).toList
        if xs.all (fun x => x.oneCell') = true ∧ (xs.all flat) = true ∧ o + xs.length ≤ cs.length then some (.val (.tuple #[]), h.set b (.cells (setAll cs o xs) true ci), n) else none
      | _, _ => none
    | _, _ => none
  | _, _ => none
theorem clearE_sound {P : Program} {μ : Mu} {h : Heap} {n : Nat} {w : World} (r : Rel P μ h n w) {ts : Array TypeId} {args args' : List Value} (ha : LRel μ args args') {y : ARes × Heap × Nat} (e : clearE P ts.toList args h n = some y) (ty : TypeId) :
    ARun P (do pure (.value (← Builtin.clear_ ts ty args'.toArray))) μ h n w y := by
  unfold clearE at e
  split at e
  · rename_i t rest x hts
    have h0 : ts[0]? = some t := by rw [← Array.getElem?_toList, hts]; rfl
    cases ha with
    | cons hx ht =>
    cases ht
    split at e
    · rename_i hu
      cases e
      cases hx
      refine ⟨μ, w, ?_, r, .refl _ _ _, Nat.le_refl _⟩
      simp [Builtin.clear_, h0, run_underlying_of hu]
      exact .val (.tuple rfl (by simp))
    · rename_i hu
      cases e
      cases hx <;> (refine ⟨μ, w, ?_, r, .refl _ _ _, Nat.le_refl _⟩; simp [Builtin.clear_, h0, run_underlying_of hu]; exact .val (.tuple rfl (by simp)))
    · rename_i el b o len cap hlen hu
      split at e
      · rename_i z cs ci hz hb
        simp only at e
        split at e
        · rename_i hc
          cases e
          cases hx with
          | slice _ _ _ cap' hm hcc =>
            obtain ⟨w', q1, h2, q2, r2, g2⟩ := run_storeCells hm _ _ h w cs o 0 r hb (LRel.flat hc.2.1).arr hc.1 (by omega)
            have hext : ∀ j, (h.set b (.cells (setAll cs o (Builtin.zeroCells z.cells len).toList) true ci)).get j = h2.get j := by
              intro j; rw [q2 j, Trie.get_set]; rfl
            refine ⟨μ, w', ?_, r2.ext hext, g2.ext hext, Nat.le_refl _⟩
            obtain ⟨k, rfl⟩ : ∃ k, len = k + 1 := by
              cases len with
              | zero => exact (hlen rfl).elim
              | succ k => exact ⟨k, rfl⟩
            simp [Builtin.clear_, h0, run_underlying_of hu, (zeroOf_run hz w).1, q1]
            exact .val (.tuple rfl (by simp))
          | szero _ _ a' => exact (hlen rfl).elim
        · cases e
      · cases e
    · cases e
  · cases e
end Go.Abs
/- All operations that act; the rule for one. -/
namespace Go.Abs
open Go
def rangeE (P : Program) (t : TypeId) (x : Value) (h : Heap) (n : Nat) : Option (ARes × Heap × Nat) :=
  match P.underlying t, x with
  | some .string, .string s => some (.val (.pointer (some ⟨n, 0, none⟩)), h.set n (.siter s 0), n + 1)
  | some (.map _ _), .map none => some (.val (.pointer (some ⟨n, 0, none⟩)), h.set n (.miter none 0 [] 0), n + 1)
  | some (.map _ _), .map (some b) => match h.get b with
    | some (.map _ clock) => some (.val (.pointer (some ⟨n, 0, none⟩)), h.set n (.miter (some b) clock [] clock), n + 1)
    | _ => none
  | _, _ => none
theorem rangeE_sound {P : Program} {μ : Mu} {h : Heap} {n : Nat} {w : World} (r : Rel P μ h n w) {t : TypeId} {x x' : Value} (hx : VRel μ x x') {y : ARes × Heap × Nat} (e : rangeE P t x h n = some y) :
    ARun P (do pure (.value (← Instr.range t x'))) μ h n w y := by
  unfold rangeE at e
  split at e
  · rename_i s hu
    cases e
    cases hx
    obtain ⟨g1, g2⟩ := r.push (.siter s 0) (.stringIter s 0) ⟨w.heap.size, 0, 0, 0⟩ rfl r.globs ⟨rfl, rfl, rfl⟩
    refine ⟨_, _, ?_, g1, g2, Nat.le_succ _⟩
    have hrun : (do pure (.value (← Instr.range t (.string s))) : Sem Next).run P w = .ok (.value (.pointer (some ⟨w.heap.size, 0, none⟩))) { w with heap := w.heap.push (.stringIter s 0) } := by
      simp [Instr.range, run_underlying_of hu]
    rw [hrun]
    exact .val (.new (m := ⟨w.heap.size, 0, 0, 0⟩) rfl 0)
  · rename_i kt el hu
    cases e
    cases hx
    obtain ⟨g1, g2⟩ := r.push (.miter none 0 [] 0) (.mapIter none 0 #[] 0) ⟨w.heap.size, 0, 0, 0⟩ rfl r.globs rfl
    refine ⟨_, _, ?_, g1, g2, Nat.le_succ _⟩
    have hrun : (do pure (.value (← Instr.range t (.map none))) : Sem Next).run P w = .ok (.value (.pointer (some ⟨w.heap.size, 0, none⟩))) { w with heap := w.heap.push (.mapIter none 0 #[] 0) } := by
      simp [Instr.range, run_underlying_of hu]
    rw [hrun]
    exact .val (.new (m := ⟨w.heap.size, 0, 0, 0⟩) rfl 0)
  · rename_i kt el b hu
    cases hx with
    | map hmu =>
    rename_i m0
    split at e
    · rename_i es clock hb
      cases e
      obtain ⟨es', f2, f3, he, hget, hset⟩ := r.mapAt hb hmu
      obtain ⟨g1, g2⟩ := r.push (.miter (some b) clock [] clock) (.mapIter (some m0.blk) clock #[] clock) ⟨w.heap.size, 0, 0, 0⟩ rfl r.globs ⟨rfl, rfl, rfl, rfl, m0, Mu.le_set (r.bound n (Nat.le_refl _)) _ _ hmu, rfl⟩
      refine ⟨_, _, ?_, g1, g2, Nat.le_succ _⟩
      have hrun : (do pure (.value (← Instr.range t (.map (some m0.blk)))) : Sem Next).run P w = .ok (.value (.pointer (some ⟨w.heap.size, 0, none⟩))) { w with heap := w.heap.push (.mapIter (some m0.blk) clock #[] clock) } := by
        simp [Instr.range, run_underlying_of hu, hget]
      rw [hrun]
      exact .val (.new (m := ⟨w.heap.size, 0, 0, 0⟩) rfl 0)
    · cases e
  · cases e
/-- A map's iterator, at an entry: what it is at. -/
def entryE (it : Value) (h : Heap) : Option Value :=
  match it with
  | .pointer (some ⟨b, 0, none⟩) => match h.get b with
    | some (.miter (some m) _ seen last) => match h.get m with
      | some (.map es clock) => match seen.getLast? with
        | some stamp => if clock = last then (match es.find? (fun e => e.born == stamp) with
          | some e => some (.tuple #[e.key, e.val])
          | none => none) else none
        | none => none
      | _ => none
    | _ => none
  | _ => none
theorem find_rel {μ : Mu} {es es' : List MapEntry} (h : ERelM μ es es') (p : Nat → Bool) {e : MapEntry} (he : es.find? (fun e => p e.born) = some e) : ∃ e', es'.find? (fun e => p e.born) = some e' ∧ VRel μ e.key e'.key ∧ VRel μ e.val e'.val ∧ e'.born = e.born := by
  induction h with
  | nil => cases he
  | @cons a b es es' hk hv hb _ ih =>
    rw [List.find?_cons] at he ⊢
    rw [hb]
    cases hp : p a.born with
    | true => rw [hp] at he; cases he; exact ⟨_, rfl, hk, hv, hb⟩
    | false => rw [hp] at he; exact ih he
theorem entryE_sound {P : Program} {μ : Mu} {h : Heap} {n : Nat} {w : World} (r : Rel P μ h n w) {x x' v : Value} (hx : VRel μ x x') (e : entryE x h = some v) :
    ∃ v', (Instr.entry x').run P w = .ok v' w ∧ VRel μ v v' := by
  unfold entryE at e
  split at e
  · rename_i b
    cases hx with
    | ptr o hm =>
    rename_i m
    split at e
    · rename_i mm since seen last hb
      obtain ⟨m1, x1, f1, f2, f3⟩ := r.obj b _ hb
      rw [hm] at f1; cases f1
      split at e
      · rename_i es clock hmb
        cases x1 with
        | mapIter mo since' seen' last' =>
          cases mo with
          | none => exact f3.elim
          | some mb =>
            obtain ⟨g0, rfl, g2, rfl, m0, g4, rfl⟩ := f3
            obtain ⟨es', q2, q3, he, hget, hset⟩ := r.mapAt hmb g4
            split at e
            · rename_i stamp hst
              split at e
              · rename_i hcl
                split at e
                · rename_i en hen
                  cases e
                  obtain ⟨e', p1, p2, p3, p4⟩ := find_rel he (fun z => z == stamp) hen
                  have hback : seen'.back? = some stamp := by rw [← hst, ← g2, Array.getLast?_toList]
                  have hfind : es'.find? (fun e => e.born == stamp) = some e' := by rw [← p1, Array.find?_toList]
                  have hgi : (getObj m.blk).run P w = .ok (.mapIter (some m0.blk) since' seen' last') w := by simp [getObj, Sem.run, f2]
                  refine ⟨.tuple #[e'.key, e'.val], ?_, (LRel.arr (.cons p2 (.cons p3 .nil))).tuple⟩
                  simp only [Instr.entry, g0, Nat.zero_add, Sem.run_bind, hgi, Result.andThen_ok, hback, hget, hcl, bne_self_eq_false, Bool.false_eq_true, if_false, hfind, Sem.run_pure]
                · cases e
              · cases e
            · cases e
        | _ => exact f3.elim
      · cases e
    · cases e
  · cases e
/-- What a map's iterator may come to: each entry that is left, or the end. -/
def nextAnyE (it : Value) (h : Heap) (n : Nat) : Option (List (ARes × Heap × Nat)) :=
  match it with
  | .pointer (some ⟨b, 0, none⟩) => match h.get b with
    | some (.miter none _ _ _) => some [(.val (.tuple #[.bool false]), h, n)]
    | some (.miter (some m) since seen last) => match h.get m with
      | some (.map es clock) =>
        if (es.all fun e => decide (e.born < since)) && decide (since ≤ last) then
          let left := es.filter fun e => !seen.contains e.born
          some (if left.isEmpty then [(.val (.tuple #[.bool false]), h, n)] else
            left.map fun e => (.val (.tuple #[.bool true, e.key, e.val]), h.set b (.miter (some m) since (seen ++ [e.born]) clock), n))
        else none
      | _ => none
    | _ => none
  | _ => none
theorem ERelM.filter {μ : Mu} {es es' : List MapEntry} (h : ERelM μ es es') (p : Nat → Bool) : ERelM μ (es.filter fun e => p e.born) (es'.filter fun e => p e.born) := by
  induction h with
  | nil => exact .nil
  | @cons a b es es' hk hv hb _ ih =>
    rw [List.filter_cons, List.filter_cons, hb]
    cases p a.born with
    | true => exact .cons hk hv hb ih
    | false => exact ih
theorem ERelM.born_all {μ : Mu} {es es' : List MapEntry} (h : ERelM μ es es') {p : Nat → Prop} (ha : ∀ e ∈ es, p e.born) : ∀ e ∈ es', p e.born := by
  induction h with
  | nil => intro e he; cases he
  | @cons a b es es' hk hv hb _ ih =>
    intro e he
    rcases List.mem_cons.1 he with rfl | he
    · rw [hb]; exact ha _ (List.mem_cons_self ..)
    · exact ih (fun e he => ha e (List.mem_cons_of_mem _ he)) e he
theorem nextAnyE_sound {P : Program} {μ : Mu} {h : Heap} {n : Nat} {w : World} (r : Rel P μ h n w) {t : TypeId} {x x' : Value} (hx : VRel μ x x') {outs : List (ARes × Heap × Nat)} (e : nextAnyE x h n = some outs) :
    ∃ y ∈ outs, ARun P (do pure (.value (← Instr.next x' false t))) μ h n w y := by
  unfold nextAnyE at e
  split at e
  · rename_i b
    cases hx with
    | ptr o hm =>
    rename_i m
    split at e
    · rename_i since seen last hb
      cases e
      obtain ⟨m1, x1, f1, f2, f3⟩ := r.obj b _ hb
      rw [hm] at f1; cases f1
      cases x1 with
      | mapIter mo since' seen' last' =>
        cases mo with
        | some mb => exact f3.elim
        | none =>
          have g0 : m.off = 0 := f3
          refine ⟨_, List.mem_singleton.2 rfl, μ, w, ?_, r, .refl _ _ _, Nat.le_refl _⟩
          have hgi : (getObj m.blk).run P w = .ok (.mapIter none since' seen' last') w := by simp [getObj, Sem.run, f2]
          have hrun : (do pure (.value (← Instr.next (.pointer (some ⟨m.blk, m.off + 0, none⟩)) false t)) : Sem Next).run P w = .ok (.value (.tuple #[.bool false])) w := by
            simp only [Instr.next, g0, Nat.zero_add, Sem.run_bind, hgi, Result.andThen_ok]
            rfl
          rw [hrun]
          exact .val (LRel.arr (.cons (.bool false) .nil)).tuple
      | _ => exact f3.elim
    · rename_i mm since seen last hb
      obtain ⟨m1, x1, f1, f2, f3⟩ := r.obj b _ hb
      rw [hm] at f1; cases f1
      split at e
      · rename_i es clock hmb
        cases x1 with
        | mapIter mo since' seen' last' =>
          cases mo with
          | none => exact f3.elim
          | some mb =>
            obtain ⟨g0, rfl, g2, rfl, m0, g4, rfl⟩ := f3
            obtain ⟨es', q2, q3, he, hget, hset⟩ := r.mapAt hmb g4
            split at e
            · rename_i hcond
              simp only [Bool.and_eq_true, decide_eq_true_eq, List.all_eq_true] at hcond
              obtain ⟨hold, hsl⟩ := hcond
              have hold' : ∀ e ∈ es'.toList, e.born < since' := he.born_all (p := fun z => z < since') hold
              have hgi : (getObj m.blk).run P w = .ok (.mapIter (some m0.blk) since' seen' last') w := by simp [getObj, Sem.run, f2]
              have hcont : ∀ z, seen'.contains z = seen.contains z := by intro z; rw [← g2, Array.contains_toList]
              have hF := he.filter (fun z => !seen.contains z)
              have hL : (es'.filter fun e => !seen'.contains e.born).toList = es'.toList.filter fun e => !seen.contains e.born := by
                rw [Array.toList_filter]; congr 1; funext e; rw [hcont]
              obtain ⟨L, hLe⟩ : ∃ L, L = es'.filter fun e => !seen'.contains e.born := ⟨_, rfl⟩
              rw [← hLe] at hL
              rw [← hL] at hF
              have hmem : ∀ x ∈ L.toList, x.born < since' := by
                intro x hx; rw [hL] at hx; exact hold' x (List.mem_filter.1 hx).1
              have e1 : L.filter (fun x => decide (x.born < since')) = L := Array.filter_eq_self.2 (fun x hx => by simpa using hmem x (by simpa using hx))
              have e2 : L.filter (fun x => decide (x.born ≥ since')) = #[] := by
                rw [Array.filter_eq_empty_iff]
                intro x hx
                have := hmem x (by simpa using hx)
                simp
                omega
              have htest := Go.next_test_false seen' es' since' last' hold' hsl
              cases e
              by_cases h0 : L.size = 0
              · have hL0 : L = #[] := Array.eq_empty_of_size_eq_zero h0
                have hl0 : (es.filter fun e => !seen.contains e.born) = [] := by
                  have := hF.length; rw [hL0] at this; exact List.eq_nil_of_length_eq_zero this.symm
                rw [hl0]
                refine ⟨_, List.mem_singleton.2 rfl, μ, w, ?_, r, .refl _ _ _, Nat.le_refl _⟩
                have hrun : (do pure (.value (← Instr.next (.pointer (some ⟨m.blk, m.off + 0, none⟩)) false t)) : Sem Next).run P w = .ok (.value (.tuple #[.bool false])) w := by
                  simp only [Instr.next, g0, Nat.zero_add, Sem.run_bind, hgi, Result.andThen_ok, hget, htest, Bool.false_eq_true, if_false, ← hLe, e1, e2]
                  rw [hL0]
                  simp [choose, Sem.run, Question.forced]
                rw [hrun]
                exact .val (LRel.arr (.cons (.bool false) .nil)).tuple
              · have hne : L.isEmpty = false := by simp [Array.isEmpty, h0]
                have hch : ∃ (j d : Nat), j < L.size ∧ (choose (Question.mapNext L.size)).run P w = .ok j { w with drawn := d } := by
                  by_cases hf : L.size ≤ 1
                  · exact ⟨0, w.drawn, by omega, by simp [choose, Sem.run, Question.forced, hf]⟩
                  · exact ⟨_, w.drawn + 1, Nat.mod_lt _ (by omega), by
                      simp only [choose, Sem.run, Question.forced, decide_eq_true_eq, hf, if_false, Question.cut]
                      rfl⟩
                obtain ⟨j, d, hj, hchr⟩ := hch
                obtain ⟨en, hen⟩ : ∃ en, (es.filter fun e => !seen.contains e.born)[j]? = some en := by
                  have := hF.length
                  exact ⟨_, List.getElem?_eq_getElem (by rw [← this]; simpa using hj)⟩
                obtain ⟨e', p1, p2, p3, p4⟩ := hF.get hen
                have hj2 : L[j]? = some e' := by simpa using p1
                have hlne : (es.filter fun e => !seen.contains e.born).isEmpty = false := by
                  cases hz : (es.filter fun e => !seen.contains e.born) with
                  | nil => rw [hz] at hen; simp at hen
                  | cons => rfl
                rw [hlne]
                simp only [Bool.false_eq_true, if_false]
                refine ⟨_, List.mem_map.2 ⟨en, List.mem_of_getElem? hen, rfl⟩, ?_⟩
                have r1 : Rel P μ h n { w with drawn := d } := Rel.of_heap (w := w) rfl r
                have ht := r1.turn (o' := .miter (some mm) since' (seen ++ [en.born]) clock) (.mapIter (some m0.blk) since' (seen'.push e'.born) clock) hb rfl hm ⟨g0, rfl, by simp [g2, p4], rfl, m0, g4, rfl⟩
                  (w' := { w with drawn := d, heap := w.heap.setIfInBounds m.blk (.mapIter (some m0.blk) since' (seen'.push e'.born) clock) }) rfl rfl rfl rfl
                refine ⟨μ, _, ?_, ht.1, (Grow.drew μ h w _).trans ht.2, Nat.le_refl _⟩
                have hset2 : ∀ x, (setObj m.blk x).run P { w with drawn := d } = .ok () { w with drawn := d, heap := w.heap.setIfInBounds m.blk x } := fun x => by simp [setObj, Sem.run, f2]
                have hrun : (do pure (.value (← Instr.next (.pointer (some ⟨m.blk, m.off + 0, none⟩)) false t)) : Sem Next).run P w = .ok (.value (.tuple #[.bool true, e'.key, e'.val])) { w with drawn := d, heap := w.heap.setIfInBounds m.blk (.mapIter (some m0.blk) since' (seen'.push e'.born) clock) } := by
                  simp only [Instr.next, g0, Nat.zero_add, Sem.run_bind, hgi, Result.andThen_ok, hget, htest, Bool.false_eq_true, if_false, ← hLe, e1, e2, Array.append_empty, hne, Array.empty_append, Array.size_map, hchr, Array.getElem?_map, hj2, Option.map_some, hset2, Sem.run_pure]
                rw [hrun]
                exact .val (LRel.arr (.cons (.bool true) (.cons p2 (.cons p3 .nil)))).tuple
            · cases e
        | _ => exact f3.elim
      · cases e
    · cases e
  · cases e
def nextE (it : Value) (isString : Bool) (h : Heap) (n : Nat) : Option (ARes × Heap × Nat) :=
  match it, isString with
  | .pointer (some ⟨b, 0, none⟩), true => match h.get b with
    | some (.siter s pos) =>
      match nextStrE s pos with
      | some (v, pos') => some (.val v, h.set b (.siter s pos'), n)
      | none => some (.val (.tuple #[.bool false]), h, n)
    | _ => none
  | _, _ => none
theorem nextE_sound {P : Program} {μ : Mu} {h : Heap} {n : Nat} {w : World} (r : Rel P μ h n w) {t : TypeId} {x x' : Value} {b : Bool} (hx : VRel μ x x') {y : ARes × Heap × Nat} (e : nextE x b h n = some y) :
    ARun P (do pure (.value (← Instr.next x' b t))) μ h n w y := by
  unfold nextE at e
  split at e
  · rename_i b
    cases hx with
    | ptr o hm =>
      rename_i m
      split at e
      · rename_i s pos hb
        obtain ⟨m1, x1, f1, f2, f3⟩ := r.obj b _ hb
        rw [hm] at f1; cases f1
        cases x1 with
        | stringIter s' pos' =>
          obtain ⟨g0, rfl, rfl⟩ := f3
          have hget : (getObj m.blk).run P w = .ok (.stringIter s pos) w := by simp [getObj, Sem.run, f2]
          split at e
          · rename_i v pos' hn
            cases e
            unfold nextStrE at hn
            split at hn
            · rename_i hlt
              cases hn
              have hlt' : pos < s.size := by simpa using hlt
              have hset : (setObj m.blk (.stringIter s (pos + (Utf8.decode s pos).2))).run P w = .ok () { w with heap := w.heap.setIfInBounds m.blk (.stringIter s (pos + (Utf8.decode s pos).2)) } := by simp [setObj, Sem.run, f2]
              have hturn := r.turn (o' := .siter s (pos + (Utf8.decode s pos).2)) (.stringIter s (pos + (Utf8.decode s pos).2)) hb rfl hm ⟨g0, rfl, rfl⟩
                (w' := { w with heap := w.heap.setIfInBounds m.blk (.stringIter s (pos + (Utf8.decode s pos).2)) }) rfl rfl rfl rfl
              refine ⟨μ, _, ?_, hturn.1, hturn.2, Nat.le_refl _⟩
              have hrun : (do pure (.value (← Instr.next (.pointer (some ⟨m.blk, m.off + 0, none⟩)) true t)) : Sem Next).run P w = .ok (.value (.tuple #[.bool true, goInt pos, .int .i32 (Utf8.decode s pos).1])) { w with heap := w.heap.setIfInBounds m.blk (.stringIter s (pos + (Utf8.decode s pos).2)) } := by
                simp only [Instr.next, g0, Nat.zero_add, Sem.run_bind, hget, Result.andThen_ok, hlt', if_true]
                rw [hset]
                rfl
              rw [hrun]
              exact .val (LRel.arr (.cons (.bool true) (.cons (.int _ _) (.cons (.int _ _) .nil)))).tuple
            · cases hn
          · rename_i hn
            cases e
            unfold nextStrE at hn
            split at hn
            · cases hn
            · rename_i hlt
              have hlt' : ¬ pos < s.size := by simpa using hlt
              refine ⟨μ, w, ?_, r, .refl _ _ _, Nat.le_refl _⟩
              have hrun : (do pure (.value (← Instr.next (.pointer (some ⟨m.blk, m.off + 0, none⟩)) true t)) : Sem Next).run P w = .ok (.value (.tuple #[.bool false])) w := by
                simp only [Instr.next, g0, Nat.zero_add, Sem.run_bind, hget, Result.andThen_ok, hlt', if_false]
                rfl
              rw [hrun]
              exact .val (LRel.arr (.cons (.bool false) .nil)).tuple
        | _ => exact f3.elim
      · cases e
  · cases e
def actE (P : Program) (o : Oper) (ρ : Operand → Value) (h : Heap) (n : Nat) : Option (ARes × Heap × Nat) :=
  match o.op with
  | .alloc t => allocE P t h n
  | .box t x => some (boxE t (ρ x) h n)
  | .buildSlice t len ps => buildSliceE P t len (ps.toList.map fun p => (p.1, ρ p.2)) h n
  | .makeSlice t l c => makeSliceE P t (ρ l) (ρ c) h n
  | .makeMap t r => makeMapE P t (r.map ρ) h n
  | .store t a x => storeOpE P t (ρ a) (ρ x) h n
  | .mapUpdate t m k x => mapUpdateE P t (ρ m) (ρ k) (ρ x) h n
  | .insert t m k x => mapUpdateE P t (ρ m) (ρ k) (ρ x) h n
  | .convert s d x => match bytesOfE P s d (ρ x) h n with
    | some y => some y
    | none => match convPtrE P s d (ρ x) h with
      | some v => some (.val v, h, n)
      | none => none
  | .range t x => rangeE P t (ρ x) h n
  | .next it b => nextE (ρ it) b h n
  | .entry it => match entryE (ρ it) h with
    | some v => some (.val v, h, n)
    | none => none
  | .mapEntry t m k => mapEntryE P t (ρ m) (ρ k) h n
  | .entryStore _ m s x => entryStoreE (ρ m) (ρ s) (ρ x) h n
  | .panic x => match ρ x with
    | .iface t v => some (.pan (.iface t v), h, n)
    | _ => none
  | .defer c => match c.callee with
    | .value f => match deferE (ρ f) (c.args.toList.map ρ) with
      | some d => some (.dfr d, h, n)
      | none => none
    | _ => none
  | .call c => match c.callee with
    | .value f => match calleeE P (ρ f) (c.args.toList.map ρ) with
      | some (k, as) => some (.ent k as, h, n)
      | none => externE P (ρ f) (c.args.toList.map ρ) h n
    | .builtin b => match b with
      | .append => appendE P c.argTypes.toList (c.args.toList.map ρ) h n
      | .copy => copyE P c.argTypes.toList (c.args.toList.map ρ) h n
      | .clear => clearE P c.argTypes.toList (c.args.toList.map ρ) h n
      | .unsafeSliceData => dataE (c.args.toList.map ρ) h n
      | .unsafeString => if c.argTypes.toList.length = 2 then bytesStrE P c.argTypes.toList (c.args.toList.map ρ) h n else none
      | _ => none
    | _ => none
  | _ => none
theorem map_arr (ρ : Operand → Value) (xs : Array Operand) : xs.map ρ = (xs.toList.map ρ).toArray := by apply Array.ext'; simp
theorem actE_sound {P : Program} (ok : POk P) {μ : Mu} {h : Heap} {n : Nat} {w : World} (r : Rel P μ h n w) {o : Oper} {ρ ρ' : Operand → Value} (hρ : ∀ x ∈ o.op.operands, VRel μ (ρ x) (ρ' x)) {y : ARes × Heap × Nat} (e : actE P o ρ h n = some y) :
    ARun P (execOp ρ' o) μ h n w y := by
  obtain ⟨dst, op, ty, pos, after, guard⟩ := o
  cases op <;> simp only [Op.operands] at hρ <;> simp only [actE] at e <;> (try (cases e; done))
  case alloc t => exact allocE_sound r e
  case box t x => cases e; exact boxE_sound r (hρ x (by simp))
  case buildSlice t len ps =>
    have hp := buildSliceE_sound r (PRel.of_map ps.toList (fun x hx => hρ x (by simpa using hx))) e
    have : (ps.map fun (i, x) => (i, ρ' x)) = (ps.toList.map fun p => (p.1, ρ' p.2)).toArray := by apply Array.ext'; simp
    simp only [execOp, this]
    exact hp
  case makeSlice t l c => exact makeSliceE_sound r (hρ l (by simp)) (hρ c (by simp)) e
  case makeMap t x => exact makeMapE_sound r (ORelV_map x fun y hy => hρ y (by subst hy; simp)) e
  case store t a x => exact storeOpE_sound r (hρ a (by simp)) (hρ x (by simp)) e
  case mapUpdate t m k x => exact mapUpdateE_sound r (hρ m (by simp)) (hρ k (by simp)) (hρ x (by simp)) e
  case insert t m k x => exact mapUpdateE_sound r (hρ m (by simp)) (hρ k (by simp)) (hρ x (by simp)) e
  case convert s d x =>
    split at e
    · rename_i y0 e0
      cases e
      exact bytesOfE_sound r (hρ x (by simp)) e0
    · split at e
      · rename_i v e0
        cases e
        obtain ⟨q1, q2⟩ := convPtrE_sound r (hρ x (by simp)) e0
        refine ⟨μ, w, ?_, r, .refl _ _ _, Nat.le_refl _⟩
        simp only [execOp, Sem.run_bind, q1, Result.andThen_ok, Sem.run_pure]
        exact .val q2
      · cases e
  case range t x => exact rangeE_sound r (hρ x (by simp)) e
  case next it b => exact nextE_sound r (hρ it (by simp)) e
  case entry it =>
    split at e
    · rename_i v hv
      cases e
      obtain ⟨v', q1, q2⟩ := entryE_sound r (hρ it (by simp)) hv
      refine ⟨μ, w, ?_, r, .refl _ _ _, Nat.le_refl _⟩
      simp only [execOp, Sem.run_bind, q1, Result.andThen_ok, Sem.run_pure]
      exact .val q2
    · cases e
  case mapEntry t m k => exact mapEntryE_sound r (hρ m (by simp)) (hρ k (by simp)) e
  case entryStore t m s x => exact entryStoreE_sound r (hρ m (by simp)) (hρ s (by simp)) (hρ x (by simp)) e
  case panic x =>
    have hx := hρ x (by simp)
    split at e
    · rename_i t v hv
      rw [hv] at hx
      generalize hx' : ρ' x = z at hx
      cases hx with
      | iface _ hvv =>
        cases e
        refine ⟨μ, w, ?_, r, .refl _ _ _, Nat.le_refl _⟩
        simp only [execOp, hx', Instr.panic, Sem.run_bind, run_goPanic, Result.andThen_halt]
        exact .pan (.iface t hvv)
    · cases e
  case defer c =>
    split at e
    · rename_i f hf
      split at e
      · rename_i d hd
        cases e
        have ha := LRel.of_map c.args.toList (fun x hx => hρ x (by simp [Call.operands, hf]; right; simpa using hx))
        obtain ⟨d', q1, q2⟩ := deferE_sound (P := P) (hρ f (by simp [Call.operands, hf])) ha hd w
        refine ⟨μ, w, ?_, r, .refl _ _ _, Nat.le_refl _⟩
        simp only [execOp, resolve, hf, map_arr ρ', Sem.run_bind, q1, Result.andThen_ok, Sem.run_pure]
        exact .dfr q2
      · cases e
    · cases e
  case call c =>
    split at e
    · rename_i f hf
      split at e
      · rename_i k as hc
        cases e
        have ha := LRel.of_map c.args.toList (fun x hx => hρ x (by simp [Call.operands, hf]; right; simpa using hx))
        obtain ⟨as', q1, q2⟩ := calleeE_sound (P := P) ok (hρ f (by simp [Call.operands, hf])) ha hc w
        refine ⟨μ, w, ?_, r, .refl _ _ _, Nat.le_refl _⟩
        simp only [execOp, resolve, hf, map_arr ρ']
        rw [q1]
        exact .ent q2
      · have ha := LRel.of_map c.args.toList (fun x hx => hρ x (by simp [Call.operands, hf]; right; simpa using hx))
        obtain ⟨μ', w', q1, q2⟩ := externE_sound ok r (hρ f (by simp [Call.operands, hf])) ha e
        refine ⟨μ', w', ?_, q2⟩
        simp only [execOp, resolve, hf, map_arr ρ']
        exact q1
    · rename_i b hf
      have ha := LRel.of_map c.args.toList (fun x hx => hρ x (by simp [Call.operands, hf]; simpa using hx))
      split at e
      · have := appendE_sound r ha e ty
        simp only [execOp, resolve, hf, map_arr ρ']
        exact this
      · have := copyE_sound r ha e ty
        simp only [execOp, resolve, hf, map_arr ρ']
        exact this
      · have := clearE_sound r ha e ty
        simp only [execOp, resolve, hf, map_arr ρ']
        exact this
      · have := dataE_sound r c.argTypes ha e ty
        simp only [execOp, resolve, hf, map_arr ρ']
        exact this
      · split at e
        · rename_i hl
          have hts : ∃ pt it, c.argTypes = #[pt, it] := by
            generalize hz : c.argTypes.toList = l at hl
            match l, hz, hl with
            | [a, b], hz, _ => exact ⟨a, b, by apply Array.ext'; simpa using hz⟩
            | [], _, hl => simp at hl
            | [a], _, hl => simp at hl
            | a :: b :: c :: l, _, hl => simp at hl
          have := bytesStrE_sound r ha e ty hts
          simp only [execOp, resolve, hf, map_arr ρ']
          exact this
        · cases e
      · cases e
    · cases e
end Go.Abs
/- The weakest precondition of an operation, of a region, of a function. -/
namespace Go.Abs
open Go
/-- How a function's call is told. -/
abbrev CallW := FuncId → List Value → Heap → Nat → (AEnd → Heap → Nat → Prop) → Prop
def acall (P : Program) : CallW := fun f args h n Q => ACall P f args.toArray h n Q
/-- What an operation that acts comes to. -/
def resW (C : CallW) (o : Oper) (fr : AAct) (K : ANextK) (Qp : Value → Heap → Nat → Prop) : ARes × Heap × Nat → Prop
  | (.val v, h', n') => K (fr.put o.dst v) h' n'
  | (.skip, h', n') => K (fr.put o.dst undef) h' n'
  | (.ent f args, h', n') => C f args h' n' fun r h'' n'' => match r with
    | .ret v => K (fr.put o.dst v) h'' n''
    | .pan v => Qp v h'' n''
  | (.dfr d, h', n') => K (({ fr with defers := d :: fr.defers } : AAct).put o.dst undef) h' n'
  | (.pan v, h', n') => Qp v h' n'
def opW (P : Program) (C : CallW) (ops : Array Oper) (o : Oper) (fr : AAct) (h : Heap) (n : Nat) (K : ANextK) (Qp : Value → Heap → Nat → Prop) : Prop :=
  if wantedA ops o fr then
    okOper P.globals.size o = true ∧ match calmE P o fr.eval h with
      | some v => K (fr.put o.dst v) h n
      | none => match actE P o fr.eval h n with
        | some x => resW C o fr K Qp x
        | none => ∃ it outs, o.op = .next it false ∧ nextAnyE (fr.eval it) h n = some outs ∧ ∀ x ∈ outs, resW C o fr K Qp x
  else K (fr.put o.dst undef) h n
theorem AOp.of_opW {P : Program} (ok : POk P) {ops : Array Oper} {Q : APost} {j : Nat} {o : Oper} {K : ANextK} {fr : AAct} {h : Heap} {n : Nat} (ho : ops[j]? = some o)
    (hq : opW P (acall P) ops o fr h n K (fun v h' n' => Q (.pan v) fr h' n')) : AOp P ops Q j K fr h n := by
  unfold opW at hq
  split at hq
  · rename_i hw
    obtain ⟨hok, hq⟩ := hq
    split at hq
    · rename_i v hv
      exact AOp.calm ho (by unfold Calm; rw [if_pos hw]; exact ⟨hok, calmE_sound hv⟩) hq
    · intro μ a w hf hr
      obtain ⟨x, hq, μ', w', hn, hr', hg, hle⟩ : ∃ x, resW (acall P) o fr K (fun v h' n' => Q (.pan v) fr h' n') x ∧ ARun P (execOp a.eval o) μ h n w x := by
        split at hq
        · rename_i x hx
          exact ⟨x, hq, actE_sound ok hr (okOper_rel hok hf hr) hx⟩
        · obtain ⟨it, outs, hop, hn, hall⟩ := hq
          obtain ⟨dst, op, ty, pos, after, guard⟩ := o
          simp only at hop
          subst hop
          obtain ⟨y, hy, hrun⟩ := nextAnyE_sound hr (t := ty) (okOper_rel hok hf hr it (by simp [Op.operands])) hn
          exact ⟨y, hall y hy, hrun⟩
      unfold wpOp
      simp only [ho]
      rw [wanted_rel hf, hw]
      simp only [if_true]
      refine .inl ?_
      unfold Oper.wp
      obtain ⟨res, h', n'⟩ := x
      simp only at hn hr' hg hle
      generalize (execOp a.eval o).run P w = z at hn
      cases hn with
      | val hv =>
        rename_i v v'
        simp only [Oper.upon]
        exact ⟨μ', _, h', n', (hf.mono hg.le).put _ hv, hr', hg, hle, ⟨fr.defers, v, by simp [ho]⟩, hq⟩
      | skip =>
        simp only [Oper.upon]
        exact ⟨μ', _, h', n', (hf.mono hg.le).put _ (undef_rel μ'), hr', hg, hle, ⟨fr.defers, undef, by simp [ho]⟩, hq⟩
      | ent ha =>
        rename_i f as as'
        simp only [Oper.upon]
        refine (hq μ' as'.toArray w' ha.arr hr').mono ?_
        rintro e w'' ⟨μ2, h2, n2, r2, he, hr2, hg2, hn2, k⟩
        cases he with
        | ret hv =>
          rename_i v v'
          exact ⟨μ2, _, h2, n2, (hf.mono (Mu.le_trans hg.le hg2.le)).put _ hv, hr2, hg.trans hg2, Nat.le_trans hle hn2, ⟨fr.defers, v, by simp [ho]⟩, k⟩
        | pan hv =>
          exact ⟨μ2, _, fr, h2, n2, .pan hv, hf.mono (Mu.le_trans hg.le hg2.le), hr2, hg.trans hg2, Nat.le_trans hle hn2, rfl, k⟩
      | dfr hd =>
        rename_i d d'
        simp only [Oper.upon]
        have hf' := hf.mono hg.le
        have hf2 : FRel μ' ({ fr with defers := d :: fr.defers } : AAct) ({ a with defers := d' :: a.defers } : Act) := ⟨hf'.size, hf'.get, .cons hd hf'.defers⟩
        exact ⟨μ', _, h', n', hf2.put _ (undef_rel μ'), hr', hg, hle, ⟨d :: fr.defers, undef, by simp [ho]⟩, hq⟩
      | pan hv =>
        simp only [Oper.upon]
        exact ⟨μ', _, fr, h', n', .pan hv, hf.mono hg.le, hr', hg, hle, rfl, hq⟩
  · rename_i hw
    exact AOp.calm ho (by unfold Calm; rw [if_neg hw]) hq
theorem resW_mono {P : Program} {o : Oper} {fr : AAct} {K K' : ANextK} {Qp Qp' : Value → Heap → Nat → Prop} (hk : ∀ fr h n, K fr h n → K' fr h n) (hp : ∀ v h n, Qp v h n → Qp' v h n) {x : ARes × Heap × Nat}
    (q : resW (acall P) o fr K Qp x) : resW (acall P) o fr K' Qp' x := by
  obtain ⟨res, h', n'⟩ := x
  cases res with
  | val v => exact hk _ _ _ q
  | skip => exact hk _ _ _ q
  | ent f args =>
    refine ACall.mono q ?_
    intro r h'' n'' _ _ q'
    refine ⟨h'', Heap.sub_refl _, ?_⟩
    cases r with
    | ret v => exact hk _ _ _ q'
    | pan v => exact hp _ _ _ q'
  | dfr d => exact hk _ _ _ q
  | pan v => exact hp _ _ _ q
theorem opW_mono {P : Program} {ops : Array Oper} {o : Oper} {fr : AAct} {h : Heap} {n : Nat} {K K' : ANextK} {Qp : Value → Heap → Nat → Prop} (hk : ∀ fr h n, K fr h n → K' fr h n)
    (q : opW P (acall P) ops o fr h n K Qp) : opW P (acall P) ops o fr h n K' Qp := by
  unfold opW at *
  split
  · rename_i hw
    rw [if_pos hw] at q
    refine ⟨q.1, ?_⟩
    have q2 := q.2
    split
    · rename_i v hv; rw [hv] at q2; exact hk _ _ _ q2
    · rename_i hv
      rw [hv] at q2
      simp only at q2
      split
      · rename_i x hx; rw [hx] at q2; exact resW_mono hk (fun _ _ _ q => q) q2
      · rename_i hx
        rw [hx] at q2
        obtain ⟨it, outs, q3, q4, q5⟩ := q2
        exact ⟨it, outs, q3, q4, fun x hx => resW_mono hk (fun _ _ _ q => q) (q5 x hx)⟩
  · rename_i hw
    rw [if_neg hw] at q
    exact hk _ _ _ q
/-- A region in the text's row. -/
def seqW (P : Program) (C : CallW) (ops : Array Oper) (Q : APost) : List Oper → ANextK
  | [], fr, h, n => Q .normal fr h n
  | o :: rest, fr, h, n => opW P C ops o fr h n (seqW P C ops Q rest) (fun v h' n' => Q (.pan v) fr h' n')
theorem AOps.of_seqW {P : Program} (ok : POk P) {ops : Array Oper} {Q : APost} : ∀ (l : List Oper) (k : Nat) (fr : AAct) (h : Heap) (n : Nat), (∀ j o, l[j]? = some o → ops[k + j]? = some o) →
    seqW P (acall P) ops Q l fr h n → AOps P ops Q (List.range' k l.length) fr h n := by
  intro l
  induction l with
  | nil => intro k fr h n _ q; exact q
  | cons o rest ih =>
    intro k fr h n hl q
    simp only [List.length_cons, List.range'_succ]
    refine AOp.of_opW ok (hl 0 o (by simp)) ?_
    refine opW_mono ?_ q
    intro fr' h' n' q'
    exact ih (k + 1) fr' h' n' (fun j o hj => by have := hl (j + 1) o (by simpa using hj); rw [show k + 1 + j = k + (j + 1) by omega]; exact this) q'
theorem AWp.seq_region {P : Program} (ok : POk P) {id : Nat} {l : List Oper} {Q : APost} {fr : AAct} {h : Heap} {n : Nat} (q : seqW P (acall P) l.toArray Q l fr h n) : AWp P (.region id l.toArray false) Q fr h n := by
  refine AWp.region ?_
  have := AOps.of_seqW ok (ops := l.toArray) l 0 fr h n (fun j o hj => by simpa using hj) q
  rw [List.range_eq_range']
  simpa using this
end Go.Abs
/- The weakest precondition of a region that draws its order. -/
namespace Go.Abs
open Go
/-- A post whose part on panics looks at these slots alone. -/
def PanExt (S : List Nat) (Q : APost) : Prop := ∀ x fr fr' h n, fr.defers = fr'.defers → (∀ t ∈ S, fr.get t = fr'.get t) → Q (.pan x) fr h n → Q (.pan x) fr' h n
/-- No operation writes to these slots. -/
def avoids (S : List Nat) (ops : Array Oper) : Bool := ops.toList.all fun o => match o.dst with
  | some d => !S.contains d
  | none => true
def EQ (Q : APost) : APost := fun x fr h n => ∃ fr', fr'.Eqv fr ∧ Q x fr' h n
theorem EQ.ext (Q : APost) : Ext (EQ Q) := fun _ _ _ _ _ e ⟨fr0, e0, q⟩ => ⟨fr0, e0.trans e, q⟩
theorem lift_EQ {P : Program} {Q : APost} {μ : Mu} {h : Heap} {n : Nat} {w : World} (e : Exit) (a : Act) (w' : World) (l : lift P (EQ Q) μ h n w e a w') : lift P Q μ h n w e a w' := by
  obtain ⟨μ', x, fr', h', n', hx, hf, hr, hg, hn, fr0, e0, q⟩ := l
  exact ⟨μ', x, fr0, h', n', hx, hf.eqv e0.symm, hr, hg, hn, q⟩
theorem calmE_pure {P : Program} {o : Oper} (hk : kindOf P o = 1) (ρ : Operand → Value) (h h' : Heap) : calmE P o ρ h = calmE P o ρ h' := by
  obtain ⟨dst, op, ty, pos, after, guard⟩ := o
  cases op <;> simp only [kindOf] at hk <;> (try (cases hk; done)) <;> (try rfl)
  case slice t x lo hi mx =>
    simp only [calmE, sliceE]
    split at hk
    · cases hk
    · rename_i hns
      split <;> first | rfl | (exact (hns _ (by assumption)).elim)
  case convert s d x =>
    simp only [calmE]
    have hs : ∀ h, strOfE P s d (ρ x) h = none := by
      intro h
      unfold strOfE
      split at hk
      · cases hk
      · cases hk
      · rename_i h1 h2
        split
        · exact (h1 _ (by assumption)).elim
        · exact (h1 _ (by assumption)).elim
        · rfl
    simp only [hs]
  case call c =>
    simp only [calmE]
    split
    · rename_i b hb
      rw [hb] at hk
      simp only at hk
      split
      · rfl
      · split
        · simp only at hk
          unfold mapLenE
          split at hk
          · rename_i t rest ht
            rw [ht]
            split at hk
            · cases hk
            · rename_i hnm
              split
              · rename_i t' rest' x' he1 he2
                cases he1
                split
                · exact (hnm _ _ (by assumption)).elim
                · split
                  · exact (hnm _ _ (by assumption)).elim
                  · rfl
              · rfl
          · cases hk
        · rfl
    · rfl
/-- A region whose order is drawn, in a row in which what reads alone comes as soon as it may. -/
def drawW (P : Program) (C : CallW) (ops : Array Oper) (Q : APost) : List Nat → Inv → ANextK
  | [], _, fr, h, n => Q .normal fr h n
  | i :: rest, inv, fr, h, n => match ops[i]? with
    | none => False
    | some o =>
      if kindOf P o = 0 then
        opW P C ops o fr h n (fun fr' h' n' => (∀ x ∈ inv.filter (fun x => !dep ops i x.1), x.2 h') ∧ drawW P C ops Q rest (inv.filter fun x => !dep ops i x.1) fr' h' n') (fun v h' n' => Q (.pan v) fr h' n')
      else if wantedA ops o fr then
        okOper P.globals.size o = true ∧ match calmE P o fr.eval h with
          | some v => drawW P C ops Q rest (if kindOf P o = 1 then inv else (i, fun h' => calmE P o fr.eval h' = some v) :: inv) (fr.put o.dst v) h n
          | none => False
      else drawW P C ops Q rest inv (fr.put o.dst undef) h n
def planOk (P : Program) (ops : Array Oper) : List Nat → Array Bool → Bool
  | [], listed => (Region.ready .any ops listed).isEmpty
  | i :: rest, listed => (match ops[i]? with
    | none => false
    | some o => if kindOf P o = 0 then Region.ready .any ops listed == [i] else (Region.ready .any ops listed).contains i && Region.free .any ops listed i) && planOk P ops rest (listed.setIfInBounds i true)
def actOf (P : Program) (ops : Array Oper) (i : Nat) : Bool := match ops[i]? with
  | some o => kindOf P o == 0
  | none => false
section
variable {P : Program} {ops : Array Oper} {Q : APost}
theorem AAny.add {inv : Inv} {k : Nat} {Y : Heap → Prop} (hY : ∀ h, Y h) : ∀ {f : Nat} {listed : Array Bool} {fr : AAct} {h : Heap} {n : Nat}, AAny P (actOf P ops) ops Q inv f listed fr h n → AAny P (actOf P ops) ops Q ((k, Y) :: inv) f listed fr h n := by
  intro f
  induction f with
  | zero => intro listed fr h n q; exact q
  | succ f ih =>
    intro listed fr h n q
    refine ⟨q.1, fun i hi => (q.2 i hi).mono fun fr' h' n' _ _ k => ⟨?_, ih k.2⟩⟩
    intro x hx hall
    rcases List.mem_cons.1 hx with rfl | hx
    · exact hY h'
    · exact k.1 x hx hall
/-- What is dropped of an invariant, was to be dropped. -/
def Dropped (P : Program) (ops : Array Oper) (listed : Array Bool) (inv inv' : Inv) : Prop :=
  ∀ x ∈ inv, x ∈ inv' ∨ ∃ j, actOf P ops j = true ∧ listed.getD j false = true ∧ dep ops j x.1 = true
theorem AAny.drop {inv inv' : Inv} : ∀ {f : Nat} {listed : Array Bool} {fr : AAct} {h : Heap} {n : Nat}, Dropped P ops listed inv inv' → AAny P (actOf P ops) ops Q inv' f listed fr h n → AAny P (actOf P ops) ops Q inv f listed fr h n := by
  intro f
  induction f with
  | zero => intro listed fr h n _ q; exact q
  | succ f ih =>
    intro listed fr h n hd q
    have hd' : ∀ i, Dropped P ops (listed.setIfInBounds i true) inv inv' := by
      intro i x hx
      rcases hd x hx with h | ⟨j, h1, h2, h3⟩
      · exact .inl h
      · exact .inr ⟨j, h1, getD_set_true h2, h3⟩
    refine ⟨q.1, fun i hi => (q.2 i hi).mono fun fr' h' n' _ _ k => ⟨?_, ih (hd' i) k.2⟩⟩
    intro x hx hall
    rcases hd' i x hx with h | ⟨j, h1, h2, h3⟩
    · exact k.1 x h hall
    · rw [hall j h1 h2] at h3; cases h3
theorem opW_pan {o : Oper} {fr : AAct} {h : Heap} {n : Nat} {K : ANextK} {Qp Qp' : Value → Heap → Nat → Prop} (hp : ∀ v h n, Qp v h n → Qp' v h n)
    (q : opW P (acall P) ops o fr h n K Qp) : opW P (acall P) ops o fr h n K Qp' := by
  unfold opW at *
  split
  · rename_i hw
    rw [if_pos hw] at q
    refine ⟨q.1, ?_⟩
    have q2 := q.2
    split
    · rename_i v hv; rw [hv] at q2; exact q2
    · rename_i hv
      rw [hv] at q2
      simp only at q2
      split
      · rename_i x hx; rw [hx] at q2; exact resW_mono (fun _ _ _ q => q) hp q2
      · rename_i hx
        rw [hx] at q2
        obtain ⟨it, outs, q3, q4, q5⟩ := q2
        exact ⟨it, outs, q3, q4, fun x hx => resW_mono (fun _ _ _ q => q) hp (q5 x hx)⟩
  · rename_i hw
    rw [if_neg hw] at q
    exact q
theorem AAny.of_drawW (ok : POk P) (hsel : Region.noSelect ops = true) {S : List Nat} (hS : avoids S ops = true) (hpan : PanExt S Q) : ∀ (plan : List Nat) (inv : Inv) (listed : Array Bool) (fr : AAct) (h : Heap) (n : Nat),
    listed.size = ops.size → Closed ops listed → planOk P ops plan listed = true → (∀ x ∈ inv, x.2 h) → drawW P (acall P) ops Q plan inv fr h n → AAny P (actOf P ops) ops (EQ Q) inv plan.length listed fr h n := by
  intro plan
  induction plan with
  | nil =>
    intro inv listed fr h n _ _ hp _ q
    refine ⟨?_, fr, .refl fr, q⟩
    simpa [planOk] using hp
  | cons i rest ih =>
    intro inv listed fr h n hsz hcl hp hinv q
    simp only [planOk, Bool.and_eq_true] at hp
    obtain ⟨hp1, hp2⟩ := hp
    simp only [drawW] at q
    cases ho : ops[i]? with
    | none => rw [ho] at q; exact q.elim
    | some o =>
      rw [ho] at q hp1
      simp only at q hp1
      have hsz' : (listed.setIfInBounds i true).size = ops.size := by simp [hsz]
      have hpan' : ∀ x fr h n (v : Value), EQ Q (.pan x) (fr.put o.dst v) h n → EQ Q (.pan x) fr h n := by
        rintro x fr h n v ⟨fr0, e0, q0⟩
        refine ⟨fr, .refl fr, hpan x fr0 fr h n (by rw [e0.defers, AAct.defers_put]) (fun t ht => ?_) q0⟩
        rw [e0.get]
        have hav := List.all_eq_true.1 hS o (Array.mem_toList_iff.2 (Array.mem_of_getElem? ho))
        cases hd : o.dst with
        | none => rfl
        | some d =>
          rw [hd] at hav
          rw [AAct.get_put, if_neg]
          rintro ⟨rfl, _⟩
          simp at hav
          exact hav ht
      by_cases hk : kindOf P o = 0
      · rw [if_pos hk] at q hp1
        have hready : Region.ready .any ops listed = [i] := by simpa using hp1
        have hi : i ∈ Region.ready .any ops listed := by rw [hready]; simp
        have hact : actOf P ops i = true := by simp [actOf, ho, hk]
        simp only [List.length_cons]
        refine ⟨fun h0 => by rw [h0] at hready; simp at hready, fun j hj => ?_⟩
        rw [hready] at hj
        simp only [List.mem_singleton] at hj
        subst hj
        have hdrop : Dropped P ops (listed.setIfInBounds j true) inv (inv.filter fun x => !dep ops j x.1) := by
          intro x hx
          by_cases hd : dep ops j x.1 = true
          · refine .inr ⟨j, hact, ?_, hd⟩
            have hlt : j < listed.size := by rw [hsz]; exact (Array.getElem?_eq_some_iff.1 ho).1
            rw [Array.getD_eq_getD_getElem?, Array.getElem?_setIfInBounds_self_of_lt hlt]; rfl
          · exact .inl (List.mem_filter.2 ⟨hx, by simpa using hd⟩)
        have hop : AOp P ops (EQ Q) j (fun fr' h' n' => (∀ x ∈ inv.filter (fun x => !dep ops j x.1), x.2 h') ∧ drawW P (acall P) ops Q rest (inv.filter fun x => !dep ops j x.1) fr' h' n') fr h n := by
          refine AOp.of_opW ok ho ?_
          exact opW_pan (fun v h n q => ⟨fr, .refl fr, q⟩) q
        refine hop.mono fun fr' h' n' _ _ k => ⟨?_, ?_⟩
        · intro x hx hall
          rcases hdrop x hx with h | ⟨j', h1, h2, h3⟩
          · exact k.1 x h
          · rw [hall j' h1 h2] at h3; cases h3
        · exact AAny.drop hdrop (ih _ _ fr' h' n' hsz' (hcl.step hi) hp2 k.1 k.2)
      · rw [if_neg hk] at q hp1
        simp only [Bool.and_eq_true] at hp1
        have hi : i ∈ Region.ready .any ops listed := by simpa using hp1.1
        have hact : actOf P ops i = false := by simp [actOf, ho, hk]
        have hli : listed.getD i false = false := by
          have := (mem_ready.1 hi).1
          rw [Array.getD_eq_getD_getElem?] at this ⊢
          cases hx : listed[i]? with
          | none => rfl
          | some b => rw [hx] at this; simpa using this
        have hfirst := fun (v : Value) (Y : Heap → Prop) => AAny.first (P := P) (act := actOf P ops) (ops := ops) (Q := EQ Q) (i := i) (oi := o) (v := v) ho hsel hact (fun x fr h n => hpan' x fr h n v) (EQ.ext Q) inv Y
          rest.length listed fr h n (Region.free_spec ho hp1.2) hcl hli hi
        have hinvH : inv.holds (actOf P ops) ops listed h := fun x hx _ => hinv x hx
        by_cases hw : wantedA ops o fr = true
        · rw [if_pos hw] at q
          obtain ⟨hok, q⟩ := q
          split at q
          · rename_i v hv
            by_cases hk1 : kindOf P o = 1
            · rw [if_pos hk1] at q
              refine hfirst v (fun _ => True) (fun h' _ => by unfold Calm; rw [if_pos hw]; exact ⟨hok, calmE_sound (by rw [calmE_pure hk1 _ h' h]; exact hv)⟩) trivial hinvH ?_
              exact AAny.add (fun _ => trivial) (ih inv _ _ h n hsz' (hcl.step hi) hp2 hinv q)
            · rw [if_neg hk1] at q
              refine hfirst v (fun h' => calmE P o fr.eval h' = some v) (fun h' hc => by unfold Calm; rw [if_pos hw]; exact ⟨hok, calmE_sound hc⟩) hv hinvH ?_
              refine ih _ _ _ h n hsz' (hcl.step hi) hp2 ?_ q
              intro x hx
              rcases List.mem_cons.1 hx with rfl | hx
              · exact hv
              · exact hinv x hx
          · exact q.elim
        · rw [if_neg hw] at q
          refine hfirst undef (fun _ => True) (fun h' _ => by unfold Calm; rw [if_neg hw]) trivial hinvH ?_
          exact AAny.add (fun _ => trivial) (ih inv _ _ h n hsz' (hcl.step hi) hp2 hinv q)
theorem AWp.draw_region (ok : POk P) {id : Nat} (plan : List Nat) (hsel : Region.noSelect ops = true) (hp : planOk P ops plan (Array.replicate ops.size false) = true) (hlen : plan.length = ops.size) {S : List Nat} (hS : avoids S ops = true) (hpan : PanExt S Q) {fr : AAct} {h : Heap} {n : Nat}
    (q : drawW P (acall P) ops Q plan [] fr h n) : AWp P (.region id ops true) Q fr h n := by
  intro μ a w hf hr
  refine wp_region_any ok.mixed ?_
  have hcl : Closed ops (Array.replicate ops.size false) := by
    intro j k hj
    rw [Array.getD_eq_getD_getElem?, Array.getElem?_replicate] at hj
    split at hj <;> simp at hj
  have := AAny.of_drawW ok hsel hS hpan plan [] (Array.replicate ops.size false) fr h n (by simp) hcl hp (by simp) q
  rw [hlen] at this
  have hs := AAny.sound _ _ _ _ _ this μ a { w with drawn := w.drawn + 1 } hf (Rel.of_heap (w := w) rfl hr)
  refine wpAny_post ?_ hs
  intro e a' w' l
  exact (lift_EQ e a' w' l).trans (Grow.drew μ h w _) (Nat.le_refl _)
end
end Go.Abs
/- Functions by their bodies. -/
namespace Go.Abs
open Go
def frameT : List Value → Nat → Trie Value → Trie Value
  | [], _, t => t
  | v :: r, i, t => frameT r (i + 1) (t.set i v)
def frameOf (args : List Value) (ntmps : Nat) : AAct := { t := frameT args 0 .nil, size := args.length + (ntmps - args.length), defers := [] }
theorem get_frameT : ∀ (args : List Value) (i : Nat) (t : Trie Value) (j : Nat), (frameT args i t).get j = if i ≤ j ∧ j < i + args.length then args[j - i]? else t.get j := by
  intro args
  induction args with
  | nil => intro i t j; simp only [frameT, List.length_nil]; rw [if_neg (by omega)]
  | cons v r ih =>
    intro i t j
    simp only [frameT]
    rw [ih]
    by_cases h : i + 1 ≤ j ∧ j < i + 1 + r.length
    · rw [if_pos h, if_pos (by simp only [List.length_cons]; omega)]
      obtain ⟨k, rfl⟩ : ∃ k, j = i + 1 + k := ⟨j - (i + 1), by omega⟩
      rw [show i + 1 + k - (i + 1) = k by omega, show i + 1 + k - i = k + 1 by omega]
      simp
    · rw [if_neg h, Trie.get_set]
      by_cases e : j = i
      · subst e; rw [if_pos rfl, if_pos (by simp only [List.length_cons]; omega)]; simp
      · rw [if_neg e, if_neg (by simp only [List.length_cons]; omega)]
theorem frameOf_rel {μ : Mu} {args args' : List Value} (h : LRel μ args args') (n : Nat) : FRel μ (frameOf args n) { tmps := args'.toArray ++ Array.replicate (n - args'.toArray.size) undef, defers := [] } := by
  have hl := h.length
  refine ⟨by simp [frameOf, hl], fun i => ?_, .nil⟩
  simp only [AAct.get, frameOf, get_frameT, Array.getD_eq_getD_getElem?]
  by_cases hi : i < args.length
  · rw [if_pos (by omega)]
    obtain ⟨x, hx⟩ : ∃ x, args[i]? = some x := ⟨args[i], List.getElem?_eq_getElem hi⟩
    obtain ⟨y, hy, hv⟩ := h.get hx
    rw [Nat.sub_zero, hx, Array.getElem?_append_left (by simp; omega)]
    simp only [List.getElem?_toArray, hy, Option.getD_some]
    exact hv
  · rw [if_neg (by omega), Trie.get_nil, Array.getElem?_append_right (by simp; omega)]
    simp only [Option.getD_none]
    rw [Array.getElem?_replicate]
    split <;> exact undef_rel μ
def resultE (P : Program) (fr : AAct) (h : Heap) : ResultVar → Option Value
  | .tmp t => some (fr.get t)
  | .cell a t => loadE P t (fr.get a) h
def resultsE (P : Program) (fr : AAct) (h : Heap) : List ResultVar → Option (List Value)
  | [] => some []
  | r :: rs => match resultE P fr h r, resultsE P fr h rs with
    | some v, some vs => some (v :: vs)
    | _, _ => none
def tupleE : List Value → Value
  | [v] => v
  | vs => .tuple vs.toArray
def resOf (tmps : Array Value) : ResultVar → Sem Value
  | .tmp t => pure (tmps.getD t undef)
  | .cell b t => do loadVar t (← asAddr (tmps.getD b undef))
theorem results_eq (fn : Func) (tmps : Array Value) : results fn tmps = (do
    let vs ← fn.results.mapM (resOf tmps)
    pure (if h : vs.size = 1 then vs[0] else .tuple vs)) := by
  have : (resOf tmps) = (fun x => match x with
    | .tmp t => pure (tmps.getD t undef)
    | .cell b t => (do loadVar t (← asAddr (tmps.getD b undef)))) := by funext x; cases x <;> rfl
  rw [this]
  rfl
theorem resultE_sound {P : Program} {μ : Mu} {h : Heap} {n : Nat} {w : World} {fr : AAct} {a : Act} (hf : FRel μ fr a) (r : Rel P μ h n w) {x : ResultVar} {v : Value} (e : resultE P fr h x = some v) :
    ∃ v', (resOf a.tmps x).run P w = .ok v' w ∧ VRel μ v v' := by
  cases x with
  | tmp t =>
    simp only [resultE, Option.some.injEq] at e
    subst e
    exact ⟨_, rfl, hf.get t⟩
  | cell b t =>
    simp only [resultE] at e
    have hb := hf.get b
    obtain ⟨v', q1, q2⟩ := loadE_sound r hb e
    refine ⟨v', ?_, q2⟩
    unfold loadE at e
    split at e
    · rename_i b0 o0 hfr
      rw [hfr] at hb
      simp only [resOf]
      generalize a.tmps.getD b undef = z at hb q1
      cases hb with
      | ptr o hm =>
        simp only [asAddr, Sem.run_bind, Sem.run_pure, Result.andThen_ok]
        simpa [Instr.loadAt, Instr.sureAddr] using q1
    · cases e
theorem resultsE_sound {P : Program} {μ : Mu} {h : Heap} {n : Nat} {w : World} {fr : AAct} {a : Act} (hf : FRel μ fr a) (r : Rel P μ h n w) : ∀ {xs : List ResultVar} {vs : List Value}, resultsE P fr h xs = some vs →
    ∃ vs', (xs.mapM (m := Sem) (resOf a.tmps)).run P w = .ok vs' w ∧ LRel μ vs vs' := by
  intro xs
  induction xs with
  | nil => intro vs e; simp only [resultsE, Option.some.injEq] at e; subst e; exact ⟨[], rfl, .nil⟩
  | cons x xs ih =>
    intro vs e
    simp only [resultsE] at e
    split at e
    · rename_i v vs0 h1 h2
      simp only [Option.some.injEq] at e
      subst e
      obtain ⟨v', p1, p2⟩ := resultE_sound hf r h1
      obtain ⟨vs', q1, q2⟩ := ih h2
      refine ⟨v' :: vs', ?_, .cons p2 q2⟩
      simp only [List.mapM_cons, Sem.run_bind]
      rw [p1]
      simp only [Result.andThen_ok]
      rw [q1]
      rfl
    · cases e
theorem results_rel {P : Program} {μ : Mu} {h : Heap} {n : Nat} {w : World} {fr : AAct} {a : Act} (hf : FRel μ fr a) (r : Rel P μ h n w) {fn : Func} {vs : List Value} (e : resultsE P fr h fn.results.toList = some vs) :
    ∃ v', (results fn a.tmps).run P w = .ok v' w ∧ VRel μ (tupleE vs) v' := by
  obtain ⟨vs', q1, q2⟩ := resultsE_sound hf r e
  have hrun : (results fn a.tmps).run P w = .ok (if h : vs'.toArray.size = 1 then vs'.toArray[0] else .tuple vs'.toArray) w := by
    rw [results_eq]
    rw [Array.mapM_eq_mapM_toList]
    simp only [Sem.run_bind, Sem.run_map]
    rw [q1]
    simp only [Result.andThen_ok, Sem.run_pure]
  refine ⟨_, hrun, ?_⟩
  cases q2 with
  | nil => exact (LRel.arr .nil).tuple
  | cons hx ht =>
    cases ht with
    | nil => simpa [tupleE] using hx
    | cons hy ht2 => simpa [tupleE] using (LRel.arr (.cons hx (.cons hy ht2))).tuple
/-- What a body must come to. -/
def bodyA (P : Program) (fn : Func) (R : AEnd → Heap → Nat → Prop) : APost
  | .normal, fr, h, n | .ret, fr, h, n => fr.defers = [] ∧ ∃ vs, resultsE P fr h fn.results.toList = some vs ∧ R (.ret (tupleE vs)) h n
  | .pan v, fr, h, n => fr.defers = [] ∧ R (.pan v) h n
  | _, _, _, _ => False
theorem bodyA_panExt {P : Program} {fn : Func} {R : AEnd → Heap → Nat → Prop} {S : List Nat} : PanExt S (bodyA P fn R) := by
  intro x fr fr' h n e _ q
  exact ⟨e ▸ q.1, q.2⟩
theorem ACall.of_body {P : Program} {f : FuncId} {fn : Func} {c : Code} {args : List Value} {h : Heap} {n : Nat} {R : AEnd → Heap → Nat → Prop}
    (hf : P.funcs[f]? = some fn) (hb : fn.body = some c) (q : AWp P c (bodyA P fn R) (frameOf args fn.ntmps) h n) : ACall P f args.toArray h n R := by
  intro μ args' w ha hr
  have ha' : LRel μ args args'.toList := by have := ha.list; simpa using this
  have hfr := frameOf_rel ha' fn.ntmps
  rw [Array.toArray_toList] at hfr
  refine calls_of_wp hf hb (wp_mono (q μ _ w hfr hr) ?_)
  rintro e a' w' ⟨μ', x, fr', h', n', hx, hf', hr', hg, hn, q'⟩
  have hd : fr'.defers = [] → a'.defers = [] := by
    intro h0
    have := hf'.defers
    rw [h0] at this
    generalize a'.defers = z at this
    cases this; rfl
  cases hx with
  | normal =>
    obtain ⟨q1, vs, q2, q3⟩ := q'
    obtain ⟨v', p1, p2⟩ := results_rel hf' hr' q2
    exact ⟨hd q1, v', p1, μ', h', n', _, .ret p2, hr', hg, hn, q3⟩
  | ret =>
    obtain ⟨q1, vs, q2, q3⟩ := q'
    obtain ⟨v', p1, p2⟩ := results_rel hf' hr' q2
    exact ⟨hd q1, v', p1, μ', h', n', _, .ret p2, hr', hg, hn, q3⟩
  | pan hv => exact ⟨hd q'.1, μ', h', n', _, .pan hv, hr', hg, hn, q'.2⟩
  | exit id => exact q'.elim
  | goto l => exact q'.elim
end Go.Abs
/- Deferred calls, and recover. -/
namespace Go.Abs
open Go
/-- How it stands with the function whose deferred call runs: it returns; it panics; its panic was recovered. -/
inductive MS where
  | calm
  | pend (v : Value)
  | done (v : Value)
inductive MRel (μ : Mu) : MS → FrameMode → Prop
  | calm : MRel μ .calm .returning
  | pend {v v' : Value} (h : VRel μ v v') : MRel μ (.pend v) (.panicking [{ v := v', recovered := false }])
  | done {v v' : Value} (h : VRel μ v v') : MRel μ (.done v) (.panicking [{ v := v', recovered := true }])
theorem MRel.mono {μ μ' : Mu} (h : μ.le μ') {m : MS} {u : FrameMode} (r : MRel μ m u) : MRel μ' m u := by
  cases r with
  | calm => exact .calm
  | pend h' => exact .pend (h'.mono h)
  | done h' => exact .done (h'.mono h)
abbrev DPost := AEnd → MS → Heap → Nat → Prop
def ACallD (P : Program) (f : FuncId) (args : Array Value) (m : MS) (h : Heap) (n : Nat) (Q : DPost) : Prop :=
  ∀ μ args' w u, ARel μ args args' → Rel P μ h n w → MRel μ m u →
    CallsD P f args' u w fun e u' w' => ∃ μ' h' n' r m', ERel μ' r e ∧ Rel P μ' h' n' w' ∧ Grow μ h w μ' h' w' ∧ n ≤ n' ∧ MRel μ' m' u' ∧ Q r m' h' n'
abbrev SPost := AExit → AAct → MS → Heap → Nat → Prop
def liftS (P : Program) (Q : SPost) (μ : Mu) (h : Heap) (n : Nat) (w : World) (c₀ : Frame) (cs : List Frame) : Exit → Act → List Frame → World → Prop := fun e a' cs' w' =>
  ∃ μ' x fr' h' n' m' u', XRel μ' x e ∧ FRel μ' fr' a' ∧ Rel P μ' h' n' w' ∧ Grow μ h w μ' h' w' ∧ n ≤ n' ∧ MRel μ' m' u' ∧ cs' = { c₀ with mode := u' } :: cs ∧ Q x fr' m' h' n'
def AWpS (P : Program) (c : Code) (Q : SPost) (fr : AAct) (m : MS) (h : Heap) (n : Nat) : Prop :=
  ∀ μ a w u (c₀ : Frame) (cs : List Frame), FRel μ fr a → Rel P μ h n w → MRel μ m u → c.wpS P (liftS P Q μ h n w c₀ cs) a ({ c₀ with mode := u } :: cs) w
section
variable {P : Program} {Q : SPost} {fr : AAct} {m : MS} {h : Heap} {n : Nat}
theorem AWpS.of_wp {c : Code} (q : AWp P c (fun x fr h n => Q x fr m h n) fr h n) : AWpS P c Q fr m h n := by
  intro μ a w u c₀ cs hf hr hm
  refine wpS_of_wp (wp_mono (q μ a w hf hr) ?_)
  rintro e a' w' ⟨μ', x, fr', h', n', hx, hf', hr', hg, hn, q'⟩
  exact ⟨μ', x, fr', h', n', m, u, hx, hf', hr', hg, hn, hm.mono hg.le, rfl, q'⟩
theorem wpS_mono {c : Code} {Q Q' : Exit → Act → List Frame → World → Prop} {a : Act} {cs : List Frame} {w : World} (q : c.wpS P Q a cs w) (hq : ∀ e a cs w, Q e a cs w → Q' e a cs w) : c.wpS P Q' a cs w :=
  fun b k hb hr => let ⟨e, a', cs', w', x, y⟩ := q b k hb hr; ⟨e, a', cs', w', hq _ _ _ _ x, y⟩
def thenS (next : AAct → MS → Heap → Nat → Prop) (Q : SPost) : SPost
  | .normal, a, m, h, n => next a m h n
  | e, a, m, h, n => Q e a m h n
theorem AWpS.seq {x y : Code} (q : AWpS P x (thenS (AWpS P y Q) Q) fr m h n) : AWpS P (.seq x y) Q fr m h n := by
  intro μ a w u c₀ cs hf hr hm
  refine wpS_seq (wpS_mono (q μ a w u c₀ cs hf hr hm) ?_)
  rintro e a1 cs1 w1 ⟨μ1, x1, fr1, h1, n1, m1, u1, hx1, hf1, hr1, hg1, hn1, hm1, rfl, q1⟩
  cases hx1 with
  | normal =>
    refine wpS_mono (q1 μ1 a1 w1 u1 c₀ cs hf1 hr1 hm1) ?_
    rintro e a2 cs2 w2 ⟨μ2, x2, fr2, h2, n2, m2, u2, hx2, hf2, hr2, hg2, hn2, hm2, rfl, q2⟩
    exact ⟨μ2, x2, fr2, h2, n2, m2, u2, hx2, hf2, hr2, hg1.trans hg2, Nat.le_trans hn1 hn2, hm2, rfl, q2⟩
  | exit id => exact ⟨μ1, _, fr1, h1, n1, m1, u1, .exit id, hf1, hr1, hg1, hn1, hm1, rfl, q1⟩
  | goto l => exact ⟨μ1, _, fr1, h1, n1, m1, u1, .goto l, hf1, hr1, hg1, hn1, hm1, rfl, q1⟩
  | ret => exact ⟨μ1, _, fr1, h1, n1, m1, u1, .ret, hf1, hr1, hg1, hn1, hm1, rfl, q1⟩
  | pan hv => exact ⟨μ1, _, fr1, h1, n1, m1, u1, .pan hv, hf1, hr1, hg1, hn1, hm1, rfl, q1⟩
/-- What recover tells, and how it stands then. -/
def recoverE : MS → Value × MS
  | .calm => (.nilIface, .calm)
  | .pend v => (v, .done v)
  | .done v => (.nilIface, .done v)
def isRecover (o : Oper) : Bool := match o.op with
  | .call c => (match c.callee with | .builtin .recover => true | _ => false) && o.guard.isNone
  | _ => false
theorem AWpS.recover {id : Nat} {o : Oper} (ho : isRecover o = true) (q : Q .normal (fr.put o.dst (recoverE m).1) (recoverE m).2 h n) : AWpS P (.region id #[o] false) Q fr m h n := by
  intro μ a w u c₀ cs hf hr hm
  refine wpS_region ?_
  have hop : ∀ ρ, (execOp ρ o).run P w = .ok .recover w := by
    intro ρ
    obtain ⟨dst, op, ty, pos, after, guard⟩ := o
    unfold isRecover at ho
    cases op <;> simp only at ho <;> (try (cases ho; done))
    rename_i c
    cases hc : c.callee with
    | value f => rw [hc] at ho; simp at ho
    | invoke r s => rw [hc] at ho; simp at ho
    | builtin b =>
      rw [hc] at ho
      cases b <;> simp at ho
      simp [execOp, resolve, hc, invoke, builtin]
  have hg : Region.wanted o (yielded #[o] a.tmps) = true := by
    unfold isRecover at ho
    unfold Region.wanted
    cases hg : o.guard with
    | none => rfl
    | some g =>
      rw [hg] at ho
      split at ho
      · simp at ho
      · cases ho
  have hrange : List.range (#[o] : Array Oper).size = [0] := rfl
  rw [hrange]
  unfold wpOpsS
  simp only [List.getElem?_toArray, List.getElem?_cons_zero, hg, if_true, hop]
  cases hm with
  | calm =>
    simp only [recoverD, wpOpsS]
    exact ⟨μ, _, _, h, n, _, _, .normal, hf.put _ .nilIface, hr, .refl _ _ _, Nat.le_refl _, .calm, rfl, q⟩
  | pend hv =>
    simp only [recoverD, wpOpsS]
    exact ⟨μ, _, _, h, n, _, _, .normal, hf.put _ hv, hr, .refl _ _ _, Nat.le_refl _, .done hv, rfl, q⟩
  | done hv =>
    simp only [recoverD, wpOpsS]
    exact ⟨μ, _, _, h, n, _, _, .normal, hf.put _ .nilIface, hr, .refl _ _ _, Nat.le_refl _, .done hv, rfl, q⟩
end
def bodyS (P : Program) (fn : Func) (R : DPost) : SPost
  | .normal, fr, m, h, n | .ret, fr, m, h, n => fr.defers = [] ∧ ∃ vs, resultsE P fr h fn.results.toList = some vs ∧ R (.ret (tupleE vs)) m h n
  | .pan v, fr, m, h, n => fr.defers = [] ∧ R (.pan v) m h n
  | _, _, _, _, _ => False
theorem defers_nil {μ : Mu} {fr : AAct} {a : Act} (hf : FRel μ fr a) (h0 : fr.defers = []) : a.defers = [] := by
  have := hf.defers
  rw [h0] at this
  generalize a.defers = z at this
  cases this; rfl
theorem ACallD.of_body {P : Program} {f : FuncId} {fn : Func} {c : Code} {args : List Value} {m : MS} {h : Heap} {n : Nat} {R : DPost}
    (hf : P.funcs[f]? = some fn) (hb : fn.body = some c) (q : AWpS P c (bodyS P fn R) (frameOf args fn.ntmps) m h n) : ACallD P f args.toArray m h n R := by
  intro μ args' w u ha hr hm
  have ha' : LRel μ args args'.toList := by have := ha.list; simpa using this
  have hfr := frameOf_rel ha' fn.ntmps
  rw [Array.toArray_toList] at hfr
  refine callsD_of_wpS hf hb ?_
  intro c₀ cs hu
  have hc : ({ c₀ with mode := u } : Frame) = c₀ := by subst hu; rfl
  have hq := q μ _ w u c₀ cs hfr hr hm
  rw [hc] at hq
  refine wpS_mono hq ?_
  rintro e a' cs' w' ⟨μ', x, fr', h', n', m', u', hx, hf', hr', hg, hn, hm', rfl, q'⟩
  cases hx with
  | normal =>
    obtain ⟨q1, vs, q2, q3⟩ := q'
    obtain ⟨v', p1, p2⟩ := results_rel hf' hr' q2
    exact ⟨defers_nil hf' q1, u', rfl, v', p1, μ', h', n', _, m', .ret p2, hr', hg, hn, hm', q3⟩
  | ret =>
    obtain ⟨q1, vs, q2, q3⟩ := q'
    obtain ⟨v', p1, p2⟩ := results_rel hf' hr' q2
    exact ⟨defers_nil hf' q1, u', rfl, v', p1, μ', h', n', _, m', .ret p2, hr', hg, hn, hm', q3⟩
  | pan hv => exact ⟨defers_nil hf' q'.1, u', rfl, μ', h', n', _, m', .pan hv, hr', hg, hn, hm', q'.2⟩
  | exit id => exact q'.elim
  | goto l => exact q'.elim
/-- What is left of a function whose body is through: its deferred calls. -/
def leavesA (P : Program) (fn : Func) (fr : AAct) (R : AEnd → Heap → Nat → Prop) : List Deferred → MS → Heap → Nat → Prop
  | [], .calm, h, n => ∃ vs, resultsE P fr h fn.results.toList = some vs ∧ R (.ret (tupleE vs)) h n
  | [], .pend v, h, n => R (.pan v) h n
  | [], .done _, _, _ => False
  | d :: ds, m, h, n => match d.target with
    | .fn (.func f) cap => ((P.funcs[f]?).bind (·.body)).isSome = true ∧ ACallD P f (d.args.toList ++ cap.toList).toArray m h n fun r m' h' n' => match r with
      | .ret _ => leavesA P fn fr R ds (match m' with | .done _ => .calm | x => x) h' n'
      | .pan _ => False
    | _ => False
def bodyAD (P : Program) (fn : Func) (R : AEnd → Heap → Nat → Prop) : APost
  | .normal, fr, h, n | .ret, fr, h, n => leavesA P fn fr R fr.defers .calm h n
  | .pan v, fr, h, n => leavesA P fn fr R fr.defers (.pend v) h n
  | _, _, _, _ => False
theorem resultsE_defers {P : Program} {fr : AAct} {ds : List Deferred} {h : Heap} : ∀ {rs : List ResultVar} {vs : List Value}, resultsE P fr h rs = some vs → resultsE P ({ fr with defers := ds } : AAct) h rs = some vs := by
  intro rs
  induction rs with
  | nil => intro vs e; exact e
  | cons r rs ih =>
    intro vs e
    simp only [resultsE] at e ⊢
    have h1 : resultE P ({ fr with defers := ds } : AAct) h r = resultE P fr h r := by cases r <;> rfl
    rw [h1]
    split at e
    · rename_i v vs0 e1 e2
      rw [e1, ih e2]; exact e
    · cases e
theorem leaves_sound {P : Program} (ok : POk P) {fn : Func} {fr : AAct} {R : AEnd → Heap → Nat → Prop} {μ0 : Mu} {h0 : Heap} {n0 : Nat} {w0 : World} {a : Act} : ∀ (ds : List Deferred) (ds' : List Deferred) (m : MS) (u : FrameMode) (μ : Mu) (h : Heap) (n : Nat) (w : World),
    DsRel μ ds ds' → FRel μ ({ fr with defers := [] } : AAct) ({ a with defers := [] } : Act) → MRel μ m u → Rel P μ h n w → Grow μ0 h0 w0 μ h w → n0 ≤ n → leavesA P fn fr R ds m h n →
    Leaves P fn a.tmps (fun e w' => ∃ μ' h' n' r, ERel μ' r e ∧ Rel P μ' h' n' w' ∧ Grow μ0 h0 w0 μ' h' w' ∧ n0 ≤ n' ∧ R r h' n') ds' u w := by
  intro ds
  induction ds with
  | nil =>
    intro ds' m u μ h n w hds hf hm hr hg hn q
    cases hds
    cases hm with
    | calm =>
      obtain ⟨vs, q2, q3⟩ := q
      obtain ⟨v', p1, p2⟩ := results_rel hf hr (show resultsE P ({ fr with defers := [] } : AAct) h fn.results.toList = some vs from resultsE_defers q2)
      exact ⟨v', p1, μ, h, n, _, .ret p2, hr, hg, hn, q3⟩
    | pend hv => exact ⟨μ, h, n, _, .pan hv, hr, hg, hn, q⟩
    | done hv => exact q.elim
  | cons d ds ih =>
    intro ds' m u μ h n w hds hf hm hr hg hn q
    cases hds with
    | cons hd ht =>
      rename_i d' ds'
      simp only [leavesA] at q
      obtain ⟨tgt, dargs⟩ := d
      obtain ⟨tgt', dargs'⟩ := d'
      obtain ⟨htgt, hargs⟩ := hd
      simp only at htgt hargs q
      cases htgt with
      | fn fv hcap =>
        rename_i cap cap'
        cases fv with
        | func f =>
          simp only at q
          obtain ⟨hbody, q⟩ := q
          have hrel : ARel μ (dargs.toList ++ cap.toList).toArray (dargs' ++ cap') := by
            have := (hargs.list.append hcap.list).arr
            have e : (dargs'.toList ++ cap'.toList).toArray = dargs' ++ cap' := by apply Array.ext'; simp
            rw [e] at this; exact this
          have hfn : ∃ fn', P.funcs[f]? = some fn' ∧ fn'.body.isNone = false := by
            cases hx : P.funcs[f]? with
            | none => rw [hx] at hbody; simp at hbody
            | some fn' =>
              rw [hx] at hbody
              refine ⟨fn', rfl, ?_⟩
              cases hy : fn'.body <;> simp_all
          obtain ⟨fn', hfn, hnb⟩ := hfn
          have hinv : (invoke (.fn (.func f) cap') dargs').run P w = .ok (.enter f (dargs' ++ cap')) w := by
            have hnm := ok.named f fn' hfn
            simp only [invoke, callFunc, Sem.run_bind, run_program, Result.andThen_ok, hfn, hnm, Bool.false_eq_true, if_false, hnb, Sem.run_pure]
          refine leaves_cons (by cases hm <;> simp) hinv ((q μ _ w u hrel hr hm).mono ?_)
          rintro e u' w' ⟨μ', h', n', r, m', he, hr', hg', hn', hm', q'⟩
          cases he with
          | ret hv =>
            simp only at q' ⊢
            refine ih ds' _ _ μ' h' n' w' (ht.mono hg'.le) (hf.mono hg'.le) ?_ hr' (hg.trans hg') (Nat.le_trans hn hn') q'
            cases hm' with
            | calm => exact .calm
            | pend hv => exact .pend hv
            | done hv => exact .calm
          | pan hv => exact q'.elim
        | _ => exact q.elim
      | nil => exact q.elim
      | builtin => exact q.elim
theorem ACall.of_body_defers {P : Program} (ok : POk P) {f : FuncId} {fn : Func} {c : Code} {args : List Value} {h : Heap} {n : Nat} {R : AEnd → Heap → Nat → Prop}
    (hf : P.funcs[f]? = some fn) (hb : fn.body = some c) (q : AWp P c (bodyAD P fn R) (frameOf args fn.ntmps) h n) : ACall P f args.toArray h n R := by
  intro μ args' w ha hr
  have ha' : LRel μ args args'.toList := by have := ha.list; simpa using this
  have hfr := frameOf_rel ha' fn.ntmps
  rw [Array.toArray_toList] at hfr
  refine calls_of_wp_defers hf hb (wp_mono (q μ _ w hfr hr) ?_)
  rintro e a' w' ⟨μ', x, fr', h', n', hx, hf', hr', hg, hn, q'⟩
  have hf0 : FRel μ' ({ fr' with defers := [] } : AAct) ({ a' with defers := [] } : Act) := ⟨hf'.size, hf'.get, .nil⟩
  cases hx with
  | normal => exact leaves_sound ok _ _ _ _ _ _ _ _ hf'.defers hf0 .calm hr' hg hn q'
  | ret => exact leaves_sound ok _ _ _ _ _ _ _ _ hf'.defers hf0 .calm hr' hg hn q'
  | pan hv => exact leaves_sound ok _ _ _ _ _ _ _ _ hf'.defers hf0 (.pend hv) hr' hg hn q'
  | exit id => exact q'.elim
  | goto l => exact q'.elim
end Go.Abs
