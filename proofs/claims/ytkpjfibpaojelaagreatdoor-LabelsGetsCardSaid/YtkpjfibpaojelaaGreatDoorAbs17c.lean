/- Built-ins that act: a slice's first place, bytes told as a string, copy, clear. -/
import Derived.Test.YtkpjfibpaojelaaGreatDoorAbs17b
import Derived.Lib.UnsafeStr
namespace Go.Abs
open Go

def dataE (args : List Value) (h : Heap) (n : Nat) : Option (ARes × Heap × Nat) :=
  match args with
  | [.slice none 0 0] => some (.val (.pointer none), h, n)
  | [.slice (some ⟨b, o, none⟩) len cap] => if (cap < U ∧ cap ≠ 0) ∨ (cap = U ∧ len ≠ 0) then some (.val (.pointer (some ⟨b, o, none⟩)), h, n) else none
  | _ => none

theorem dataE_sound {P : Program} {μ : Mu} {h : Heap} {n : Nat} {w : World} (r : Rel P μ h n w) (ts : Array TypeId) {args args' : List Value} (ha : LRel μ args args') {y : ARes × Heap × Nat} (e : dataE args h n = some y) (ty : TypeId) :
    ARun P (do pure (.value (← Builtin.unsafeSliceData_ ts ty args'.toArray))) μ h n w y := by
  unfold dataE at e
  split at e
  · cases e
    cases ha with
    | cons hx ht =>
    cases ht; cases hx
    refine ⟨μ, w, ?_, r, .refl _ _ _, Nat.le_refl _⟩
    simp only [Sem.run_bind, Lib.run_unsafeSliceData_nil, Result.andThen_ok, Sem.run_pure]
    exact .val .pnil
  · rename_i b o len cap
    split at e
    · rename_i hc
      cases e
      cases ha with
      | cons hx ht =>
      cases ht
      cases hx with
      | slice _ _ _ cap' hm hcc =>
        refine ⟨μ, w, ?_, r, .refl _ _ _, Nat.le_refl _⟩
        have hcap : cap' ≠ 0 := by omega
        simp only [Sem.run_bind, Lib.run_unsafeSliceData_row w ts ty _ _ _ hcap, Result.andThen_ok, Sem.run_pure]
        exact .val (.ptr o hm)
    · cases e
  · cases e

theorem liesAt_row {P : Program} {e : TypeId} (hc : P.cellsOf e = 1) (count off n : Nat) (hn : off + n ≤ count) : liesAt P P.depth e count off e n = true := by
  have hd : P.depth = (2 * (P.types.size + Made.depth) + 1) + 1 := rfl
  rw [hd]
  simp only [liesAt, Bool.or_eq_true]
  left
  rw [hd]
  simp [rowAt, hc, hn, sameLayout, Nat.mod_one]

/-- Bytes as a string, that share its memory: the row is not to be written any more. -/
def bytesStrE (P : Program) (ts : List TypeId) (args : List Value) (h : Heap) (n : Nat) : Option (ARes × Heap × Nat) :=
  match ts, args with
  | pt :: _, [.pointer (some ⟨b, o, none⟩), .int .i64 len] =>
    match P.underlying pt, h.get b with
    | some (.pointer e), some (.cells cs true ci) =>
      if ci.e = e ∧ P.cellsOf e = 1 ∧ 0 < len ∧ len ≤ 9223372036854775807 then
        match rowE h b o len.toNat with
        | some xs => match bytesE xs with
          | some ns => some (.val (.string ⟨(ns.map fun n => UInt8.ofNat n.toNat).toArray⟩), h.set b (.cells cs false ci), n)
          | none => none
        | none => none
      else none
    | _, _ => none
  | _, [.pointer none, .int .i64 0] => some (.val (.string ⟨#[]⟩), h, n)
  | _, _ => none

theorem run_loadBytesInt {P : Program} {w : World} : ∀ (l : List Int) (a : Addr) (acc : ByteArray), (∀ j x, l[j]? = some x → w.cell? (a.add j) = some (.int .u8 x)) →
    (loadBytes a acc l.length).run P w = .ok ⟨acc.data ++ (l.map fun x => UInt8.ofNat x.toNat).toArray⟩ w
  | [], a, acc, _ => by simp [loadBytes]
  | x :: l, a, acc, h => by
    have h0 : w.cell? a = some (.int .u8 x) := by
      have := h 0 x rfl
      simpa [Addr.add] using this
    have ih := run_loadBytesInt (P := P) (w := w) l (a.add 1) (acc.push x.toNat.toUInt8) (fun j y hy => by
      have := h (j + 1) y (by simpa using hy)
      have e : (a.add 1).add j = a.add (j + 1) := by
        unfold Addr.add
        by_cases hj : j = 0
        · subst hj; simp
        · simp [hj]; omega
      rw [e]; exact this)
    simp only [List.length_cons, loadBytes, Sem.run_bind, run_load, h0, Result.andThen]
    rw [ih]
    congr 1
    apply ByteArray.ext
    simp [ByteArray.push]

theorem bytesStrE_sound {P : Program} {μ : Mu} {h : Heap} {n : Nat} {w : World} (r : Rel P μ h n w) {ts : Array TypeId} {args args' : List Value} (ha : LRel μ args args') {y : ARes × Heap × Nat} (e : bytesStrE P ts.toList args h n = some y) (ty : TypeId) (hts : ∃ pt it, ts = #[pt, it]) :
    ARun P (do pure (.value (← Builtin.unsafeString_ ts ty args'.toArray))) μ h n w y := by
  obtain ⟨pt0, it0, rfl⟩ := hts
  unfold bytesStrE at e
  split at e
  · rename_i pt rest b o len hts
    simp only [List.cons.injEq] at hts
    obtain ⟨rfl, -⟩ := hts
    cases ha with
    | cons hx ht =>
    cases ht with
    | cons hy ht =>
    cases ht
    cases hy
    split at e
    · rename_i el cs ci hu hb
      split at e
      · rename_i hc
        obtain ⟨c1, c2, c3, c4⟩ := hc
        split at e
        · rename_i xs hrow
          split at e
          · rename_i ns hns
            cases e
            cases hx with
            | ptr _ hm =>
            rename_i m
            obtain ⟨m', xs', f1, f2, f3, f4, f5⟩ := rowE_sound r hrow
            rw [hm] at f1; cases f1
            rw [bytesE_eq hns] at f5 f3
            have hxs' : xs' = ns.map (Value.int .u8) := by
              have := f5.list
              simp only at this
              exact this.ints
            obtain ⟨m', x1, k1, k2, k3⟩ := r.obj b _ hb
            rw [hm] at k1; cases k1
            cases x1 with
            | cells c e2 fr =>
              obtain ⟨g1, g2, g3, g4, g5, g6, g7⟩ := k3
              have hrl : o + len.toNat ≤ cs.length := by
                unfold rowE at hrow
                rw [hb] at hrow
                simp only at hrow
                split at hrow
                · assumption
                · cases hrow
              have hnl : ns.length = len.toNat := by simpa using f3
              have hturn := r.turn (o' := .cells cs false ci) (.cells c e2 (if fr.1 == fr.2 then (m.off + o, m.off + o + len.toNat) else (min fr.1 (m.off + o), max fr.2 (m.off + o + len.toNat)))) hb rfl hm
                ⟨g1, g2, g3, by simp, g5, g6, g7⟩ (w' := { w with heap := w.heap.setIfInBounds m.blk (.cells c e2 (if fr.1 == fr.2 then (m.off + o, m.off + o + len.toNat) else (min fr.1 (m.off + o), max fr.2 (m.off + o + len.toNat)))) }) rfl rfl rfl rfl
              refine ⟨μ, _, ?_, hturn.1, hturn.2, Nat.le_refl _⟩
              have hsh := shape_of k2
              have hl : liesAt P P.depth e2 (c.size / P.cellsOf e2) (m.off + o) el len.toNat = true := by
                rw [g6, c1, c2, Nat.div_one]
                exact liesAt_row c2 _ _ _ (by omega)
              have hload := run_loadBytesInt (P := P) (w := w) ns ⟨m.blk, m.off + o, none⟩ .empty (fun j x hj => by
                rw [Addr.add_plain]
                exact f4 j _ (by rw [hxs', List.getElem?_map, hj]; rfl))
              rw [hnl] at hload
              have hfreeze : w.freeze ⟨m.blk, m.off + o, none⟩ len.toNat = { w with heap := w.heap.setIfInBounds m.blk (.cells c e2 (if fr.1 == fr.2 then (m.off + o, m.off + o + len.toNat) else (min fr.1 (m.off + o), max fr.2 (m.off + o + len.toNat)))) } := by
                have : len.toNat ≠ 0 := by omega
                simp only [World.freeze, if_neg this]
                rw [modify_of k2]
              have h1 : ¬ len < 0 := by omega
              have h2 : ¬ 9223372036854775807 < len := by omega
              have h3 : len ≠ 0 := by omega
              have hrun : (Builtin.unsafeString_ #[pt0, it0] ty [Value.pointer (some ⟨m.blk, m.off + o, none⟩), Value.int .i64 len].toArray).run P w = .ok (.string ⟨(ns.map fun n => UInt8.ofNat n.toNat).toArray⟩) (w.freeze ⟨m.blk, m.off + o, none⟩ len.toNat) := by
                have hdef : Builtin.unsafeString_ #[pt0, it0] ty [Value.pointer (some ⟨m.blk, m.off + o, none⟩), Value.int .i64 len].toArray =
                  (do
                    let n ← asInt (.int .i64 len)
                    if n < 0 then runtimePanic (.error "unsafe.String: len out of range")
                    if n > IntKind.i64.max then unsupported (.unsafePointer "String: a length above the largest int")
                    if n = 0 then pure (.string .empty)
                    else if ← variablesAt ⟨m.blk, m.off + o, none⟩ (← elemOf pt0) n.toNat then do
                      let s ← loadBytes ⟨m.blk, m.off + o, none⟩ .empty n.toNat
                      freeze ⟨m.blk, m.off + o, none⟩ n.toNat
                      pure (.string s)
                    else unsupported (.unsafePointer "String: not so many bytes at ptr")) := rfl
                rw [hdef]
                simp [asInt, asIntOf, h1, h2, h3, elemOf, run_underlying_of hu, variablesAt, hsh, hl, hload]
              simp only [Sem.run_bind, hrun, Result.andThen_ok, Sem.run_pure, hfreeze]
              exact .val (.string _)
            | _ => exact k3.elim
          · cases e
        · cases e
      · cases e
    · cases e
  · rename_i hne
    cases e
    cases ha with
    | cons hx ht =>
    cases ht with
    | cons hy ht =>
    cases ht
    cases hx; cases hy
    refine ⟨μ, w, ?_, r, .refl _ _ _, Nat.le_refl _⟩
    have := Lib.run_unsafeString_none (P := P) w pt0 it0 ty none
    simp only [Sem.run_bind, this, Result.andThen_ok, Sem.run_pure]
    exact .val (.string _)
  · cases e

/-! copy. -/
def copyE (P : Program) (ts : List TypeId) (args : List Value) (h : Heap) (n : Nat) : Option (ARes × Heap × Nat) :=
  match ts, args with
  | dt :: _, [.slice base dLen _, x] => match P.underlying dt with
    | some (.slice el) => match P.info? el with
      | some i =>
        let sLen : Option Nat := match x with
          | .slice _ l _ => some l
          | .string s => some s.data.toList.length
          | _ => none
        match sLen with
        | none => none
        | some sl =>
          let k := min sl dLen
          let src : Option (List Value) := match x with
            | .slice (some ⟨b, o, none⟩) _ _ => if k = 0 then some [] else rowE h b o (k * i.size)
            | .slice none _ _ => some []
            | .string s => if i.size = 1 then some ((s.data.toList.take k).map fun b => .int .u8 b.toNat) else none
            | _ => none
          match src with
          | none => none
          | some xs =>
            if xs.isEmpty then some (.val (.int .i64 k), h, n)
            else match base with
              | some ⟨b, o, none⟩ => match h.get b with
                | some (.cells cs true ci) => if xs.all (fun x => x.oneCell') = true ∧ o + xs.length ≤ cs.length then some (.val (.int .i64 k), h.set b (.cells (setAll cs o xs) true ci), n) else none
                | _ => none
              | _ => none
      | none => none
    | _ => none
  | _, _ => none

theorem run_loadCells_zero {P : Program} {w : World} (a : Addr) : (loadCells a 0).run P w = .ok #[] w := by
  have := run_loadCells (P := P) (w := w) (b := a.block) (o := a.off) [] (by simp)
  rfl

theorem copyE_sound {P : Program} {μ : Mu} {h : Heap} {n : Nat} {w : World} (r : Rel P μ h n w) {ts : Array TypeId} {args args' : List Value} (ha : LRel μ args args') {y : ARes × Heap × Nat} (e : copyE P ts.toList args h n = some y) (ty : TypeId) :
    ARun P (do pure (.value (← Builtin.copy_ ts ty args'.toArray))) μ h n w y := by
  unfold copyE at e
  split at e
  · rename_i dt rest base dLen cap x hts
    have h0 : ts[0]? = some dt := by rw [← Array.getElem?_toList, hts]; rfl
    cases ha with
    | cons hd ht =>
    cases ht with
    | cons hx ht =>
    cases ht
    rename_i d' x'
    split at e
    · rename_i el hu
      split at e
      · rename_i i hi
        simp only at e
        split at e
        · cases e
        · rename_i sl hsl
          split at e
          · cases e
          · rename_i xs hsrc
            have key : ∃ xs' : List Value, LRel μ xs xs' ∧ (Builtin.lenOf x').run P w = .ok sl w ∧ (Builtin.firstCells i.size (min sl dLen) x').run P w = .ok xs'.toArray w := by
              split at hsrc
              · rename_i b o l c
                simp only [Option.some.injEq] at hsl; subst hsl
                cases hx with
                | slice _ _ _ cap' hm hc =>
                  split at hsrc
                  · rename_i hk
                    cases hsrc
                    refine ⟨[], .nil, rfl, ?_⟩
                    simp only [Builtin.firstCells, hk, Nat.zero_mul]
                    exact run_loadCells_zero _
                  · obtain ⟨m, xs', f1, f2, f3, f4, f5⟩ := rowE_sound r hsrc
                    rw [hm] at f1; cases f1
                    refine ⟨xs', f5.list, rfl, ?_⟩
                    simp only [Builtin.firstCells]
                    rw [← f2]
                    exact run_loadCells xs' f4
              · simp only [Option.some.injEq] at hsl; subst hsl
                cases hsrc
                cases hx
                exact ⟨[], .nil, rfl, rfl⟩
              · rename_i s
                simp only [Option.some.injEq] at hsl; subst hsl
                cases hx
                split at hsrc
                · cases hsrc
                  refine ⟨_, LRel.flat (by rw [List.all_eq_true]; intro y hy; obtain ⟨b, _, rfl⟩ := List.mem_map.1 hy; rfl), by simp [Builtin.lenOf], ?_⟩
                  simp only [Builtin.firstCells, Sem.run_pure]
                  congr 1
                  apply Array.ext'
                  simp
                · cases hsrc
              · cases hsrc
            obtain ⟨xs', l1, l2, l3⟩ := key
            split at e
            · rename_i hemp
              cases e
              have hxs : xs = [] := by simpa using hemp
              subst hxs
              cases l1
              refine ⟨μ, w, ?_, r, .refl _ _ _, Nat.le_refl _⟩
              have l3' : (Builtin.firstCells i.size (Nat.min sl dLen) x').run P w = .ok #[] w := l3
              have hrun : (Builtin.copy_ ts ty [d', x'].toArray).run P w = .ok (goInt (Nat.min sl dLen)) w := by
                generalize hq : Nat.min sl dLen = q at l3'
                cases hd <;> (try rw [show Nat.min sl 0 = q from hq]) <;> simp [Builtin.copy_, h0, run_underlying_of hu, l2, run_sizeOf_of hi, hq, l3', storeCells] <;> (have hz : q = 0 := by rw [← hq]; simp) <;> subst hz <;> simp [l3']
              simp only [Sem.run_bind, hrun, Result.andThen_ok, Sem.run_pure]
              exact .val (.int _ _)
            · split at e
              · rename_i b o
                split at e
                · rename_i cs ci hb
                  split at e
                  · rename_i hc
                    cases e
                    cases hd with
                    | slice _ _ _ cap' hm hcc =>
                      obtain ⟨w', q1, h2, q2, r2, g2⟩ := run_storeCells hm xs xs' h w cs o 0 r hb l1.arr hc.1 (by omega)
                      have hext : ∀ j, (h.set b (.cells (setAll cs o xs) true ci)).get j = h2.get j := by
                        intro j; rw [q2 j, Trie.get_set]; rfl
                      refine ⟨μ, w', ?_, r2.ext hext, g2.ext hext, Nat.le_refl _⟩
                      have l3' : (Builtin.firstCells i.size (Nat.min sl dLen) x').run P w = .ok xs'.toArray w := l3
                      simp [Builtin.copy_, h0, run_underlying_of hu, l2, run_sizeOf_of hi, l3', q1]
                      exact .val (.int _ _)
                  · cases e
                · cases e
              · cases e
      · cases e
    · cases e
  · cases e

/-! clear. -/
def clearE (P : Program) (ts : List TypeId) (args : List Value) (h : Heap) (n : Nat) : Option (ARes × Heap × Nat) :=
  match ts, args with
  | t :: _, [x] => match P.underlying t, x with
    | some (.slice _), .slice none _ _ => some (.val (.tuple #[]), h, n)
    | some (.slice _), .slice (some _) 0 _ => some (.val (.tuple #[]), h, n)
    | some (.slice el), .slice (some ⟨b, o, none⟩) len _ => match zeroOf P el, h.get b with
      | some z, some (.cells cs true ci) =>
        let xs := (Builtin.zeroCells z.cells len).toList
        if xs.all (fun x => x.oneCell') = true ∧ (xs.all flat) = true ∧ o + xs.length ≤ cs.length then some (.val (.tuple #[]), h.set b (.cells (setAll cs o xs) true ci), n) else none
      | _, _ => none
    | _, _ => none
  | _, _ => none

theorem clearE_sound {P : Program} {μ : Mu} {h : Heap} {n : Nat} {w : World} (r : Rel P μ h n w) {ts : Array TypeId} {args args' : List Value} (ha : LRel μ args args') {y : ARes × Heap × Nat} (e : clearE P ts.toList args h n = some y) (ty : TypeId) :
    ARun P (do pure (.value (← Builtin.clear_ ts ty args'.toArray))) μ h n w y := by
  unfold clearE at e
  split at e
  · rename_i t rest x hts
    have h0 : ts[0]? = some t := by rw [← Array.getElem?_toList, hts]; rfl
    cases ha with
    | cons hx ht =>
    cases ht
    split at e
    · rename_i hu
      cases e
      cases hx
      refine ⟨μ, w, ?_, r, .refl _ _ _, Nat.le_refl _⟩
      simp [Builtin.clear_, h0, run_underlying_of hu]
      exact .val (.tuple rfl (by simp))
    · rename_i hu
      cases e
      cases hx
      refine ⟨μ, w, ?_, r, .refl _ _ _, Nat.le_refl _⟩
      simp [Builtin.clear_, h0, run_underlying_of hu]
      exact .val (.tuple rfl (by simp))
    · rename_i el b o len cap hlen hu
      split at e
      · rename_i z cs ci hz hb
        simp only at e
        split at e
        · rename_i hc
          cases e
          cases hx with
          | slice _ _ _ cap' hm hcc =>
            obtain ⟨w', q1, h2, q2, r2, g2⟩ := run_storeCells hm _ _ h w cs o 0 r hb (LRel.flat hc.2.1).arr hc.1 (by omega)
            have hext : ∀ j, (h.set b (.cells (setAll cs o (Builtin.zeroCells z.cells len).toList) true ci)).get j = h2.get j := by
              intro j; rw [q2 j, Trie.get_set]; rfl
            refine ⟨μ, w', ?_, r2.ext hext, g2.ext hext, Nat.le_refl _⟩
            obtain ⟨k, rfl⟩ : ∃ k, len = k + 1 := by
              cases len with
              | zero => exact (hlen rfl).elim
              | succ k => exact ⟨k, rfl⟩
            simp [Builtin.clear_, h0, run_underlying_of hu, (zeroOf_run hz w).1, q1]
            exact .val (.tuple rfl (by simp))
        · cases e
      · cases e
    · cases e
  · cases e
end Go.Abs
