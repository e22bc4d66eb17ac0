/- Operations that act: makes, appends, copies, maps. -/
import Derived.Test.YtkpjfibpaojelaaGreatDoorAbs13
namespace Go.Abs
open Go

theorem wrap64_in {x : Int} (h0 : 0 ≤ x) (h1 : x < 9223372036854775808) : IntKind.i64.wrap x = x := by
  have e : IntKind.i64.wrap x = if (x % 18446744073709551616) ≥ 9223372036854775808 then x % 18446744073709551616 - 18446744073709551616 else x % 18446744073709551616 := by
    simp [IntKind.wrap, IntKind.bits, IntKind.signed]
  rw [e]
  have : x % 18446744073709551616 = x := Int.emod_eq_of_lt h0 (by omega)
  rw [this, if_neg (by omega)]

def makeSliceE (P : Program) (t : TypeId) (len cap : Value) (h : Heap) (n : Nat) : Option (ARes × Heap × Nat) :=
  match P.underlying t, len, cap with
  | some (.slice elem), .int _ l, .int _ c =>
    match P.info? elem, zeroOf P elem with
    | some i, some z =>
      if z.cells.toList.length = i.size ∧ 0 ≤ l ∧ l ≤ c ∧ c < 2 ^ 47 ∧ i.bytes * c ≤ 2 ^ 47 then
        some (.val (.slice (some ⟨n, 0, none⟩) l.toNat c.toNat), h.set n (.cells (zerosE z.cells.toList c.toNat) true ⟨elem, 0, true⟩), n + 1)
      else none
    | _, _ => none
  | _, _, _ => none

theorem makeSliceE_sound {P : Program} {μ : Mu} {h : Heap} {n : Nat} {w : World} (r : Rel P μ h n w) {t : TypeId} {l l' c c' : Value} (hl : VRel μ l l') (hc : VRel μ c c') {x : ARes × Heap × Nat} (e : makeSliceE P t l c h n = some x) :
    ARun P (do pure (.value (← Instr.makeSlice t l' c'))) μ h n w x := by
  unfold makeSliceE at e
  split at e
  · rename_i elem k1 l k2 c hu
    cases hl; cases hc
    split at e
    · rename_i i z hi hz
      split at e
      · rename_i hcnd
        obtain ⟨c1, c2, c3, c4, c5⟩ := hcnd
        cases e
        obtain ⟨q1, q2, _⟩ := zeroOf_run hz w
        obtain ⟨g1, g2⟩ := r.row (rest := []) (LRel.flat (flat_zerosE q2 c.toNat)) elem 0 true (fun _ => rfl) (0, 0) (.inr (Nat.le_refl _))
        rw [List.append_nil] at g1 g2
        refine ⟨_, _, ?_, g1, g2, Nat.le_succ _⟩
        have hzs : z.cells.size = i.size := by simpa using c1
        have hwl : IntKind.i64.wrap l = l := wrap64_in c2 (by omega)
        have hwc : IntKind.i64.wrap c = c := wrap64_in (by omega) (by omega)
        have hcond : (((decide (c < 0) || decide ((i.bytes : Int) * c > 2 ^ 48)) || decide (l < 0)) || decide (l > c)) = false := by
          simp; omega
        have hz1 : ∀ (X : Sem (Array Value)), X = (if c.toNat * i.size = 0 then pure #[] else do pure (← zeroValue elem).cells) → X.run P w = .ok (if c.toNat * i.size = 0 then #[] else z.cells) w := by
          intro X hX; rw [hX]; split <;> simp [q1]
        have : (do pure (.value (← Instr.makeSlice t (.int k1 l) (.int k2 c))) : Sem Next).run P w = .ok (.value (.slice (some ⟨w.heap.size, 0, none⟩) l.toNat c.toNat)) { w with heap := w.heap.push (.cells (zerosE z.cells.toList c.toNat).toArray elem (0, 0)) } := by
          by_cases h0 : c.toNat * i.size = 0
          · have hz0 : zerosE z.cells.toList c.toNat = [] := by
              apply List.eq_nil_of_length_eq_zero
              rw [length_zerosE, c1]; exact h0
            have hr1 : (Array.range 0).map (fun _ => (default : Value)) = #[] := by apply Array.ext'; simp
            simp only [Instr.makeSlice, Sem.run_bind, run_underlying_of hu, Result.andThen_ok, asInt, asIntOf, Sem.run_pure, run_typeInfo_of hi, hwl, hwc, hcond, run_sizeOf_of hi, run_askRoom, h0, if_true, Bool.false_eq_true, if_false]
            simp [hr1, newRow, hz0]
          · have hmap := zeros_model z.cells c.toNat
            rw [hzs] at hmap
            simp only [Instr.makeSlice, Sem.run_bind, run_underlying_of hu, Result.andThen_ok, asInt, asIntOf, Sem.run_pure, run_typeInfo_of hi, hwl, hwc, hcond, run_sizeOf_of hi, run_askRoom, h0, q1, Bool.false_eq_true, if_false, hzs, hmap, newRow, run_newObj]
        rw [this]
        exact .val (.newSlice rfl _ _ _ (.inl ⟨by unfold U; omega, rfl⟩))
      · cases e
    · cases e
  · cases e

def makeMapE (P : Program) (t : TypeId) (hint : Option Value) (h : Heap) (n : Nat) : Option (ARes × Heap × Nat) :=
  match hint, P.underlying t with
  | none, _ => some (.val (.map (some n)), h.set n (.map []), n + 1)
  | some (.int _ _), some (.map _ _) => some (.val (.map (some n)), h.set n (.map []), n + 1)
  | _, _ => none

theorem makeMapE_sound {P : Program} {μ : Mu} {h : Heap} {n : Nat} {w : World} (r : Rel P μ h n w) {t : TypeId} {x x' : Option Value} (hx : ORelV μ x x') {y : ARes × Heap × Nat} (e : makeMapE P t x h n = some y) :
    ARun P (do pure (.value (← Instr.makeMap t x'))) μ h n w y := by
  obtain ⟨g1, g2⟩ := r.push (.map []) (.map #[] 0) ⟨w.heap.size, 0, 0, 0⟩ rfl r.globs ⟨rfl, rfl, by simp, by simp, by simp⟩
  have hv : VRel (μ.set n ⟨w.heap.size, 0, 0, 0⟩) (.map (some n)) (.map (some w.heap.size)) := .map (m := ⟨w.heap.size, 0, 0, 0⟩) (Mu.set_same _ _ _)
  unfold makeMapE at e
  split at e
  · cases e
    cases hx
    refine ⟨_, _, ?_, g1, g2, Nat.le_succ _⟩
    have : (do pure (.value (← Instr.makeMap t none)) : Sem Next).run P w = .ok (.value (.map (some w.heap.size))) { w with heap := w.heap.push (.map #[] 0) } := by
      simp [Instr.makeMap]
    rw [this]
    exact .val hv
  · rename_i k i kt el hu
    cases e
    cases hx with
    | some hx =>
      cases hx
      refine ⟨_, _, ?_, g1, g2, Nat.le_succ _⟩
      have : (do pure (.value (← Instr.makeMap t (some (.int k i)))) : Sem Next).run P w = .ok (.value (.map (some w.heap.size))) { w with heap := w.heap.push (.map #[] 0) } := by
        simp [Instr.makeMap, run_underlying_of hu, asInt, asIntOf]
      rw [this]
      exact .val hv
  · cases e

def storeOpE (P : Program) (t : TypeId) (a x : Value) (h : Heap) (n : Nat) : Option (ARes × Heap × Nat) :=
  match storeE P t a x h with
  | some h' => some (.skip, h', n)
  | none => none

theorem storeOpE_sound {P : Program} {μ : Mu} {h : Heap} {n : Nat} {w : World} (r : Rel P μ h n w) {t : TypeId} {a a' v v' : Value} (ha : VRel μ a a') (hv : VRel μ v v') {y : ARes × Heap × Nat} (e : storeOpE P t a v h n = some y) :
    ARun P (do Instr.storeAt t a' v'; pure .skip) μ h n w y := by
  unfold storeOpE at e
  split at e
  · rename_i h' hs
    cases e
    obtain ⟨w', q1, q2, q3⟩ := storeE_sound r ha hv hs
    refine ⟨μ, w', ?_, q2, q3, Nat.le_refl _⟩
    have : (do Instr.storeAt t a' v'; pure .skip : Sem Next).run P w = .ok .skip w' := by simp [q1]
    rw [this]
    exact .skip
  · cases e

/-! Maps: an entry set. -/
def setEntry (es : List (Value × Value)) (i : Nat) (v : Value) : List (Value × Value) :=
  match es, i with
  | [], _ => []
  | (k, _) :: r, 0 => (k, v) :: r
  | e :: r, i + 1 => e :: setEntry r i v

theorem setEntry_get (v : Value) : ∀ (es : List (Value × Value)) (i j : Nat), (setEntry es i v)[j]? = (es[j]?).map fun e => if j = i then (e.1, v) else e := by
  intro es
  induction es with
  | nil => intro i j; simp [setEntry]
  | cons e es ih =>
    intro i j
    obtain ⟨k, v0⟩ := e
    cases i with
    | zero =>
      cases j with
      | zero => simp [setEntry]
      | succ j => simp [setEntry]
    | succ i =>
      cases j with
      | zero => simp [setEntry]
      | succ j => simp [setEntry, ih]

def mapUpdateE (P : Program) (t : TypeId) (m k v : Value) (h : Heap) (n : Nat) : Option (ARes × Heap × Nat) :=
  match P.underlying t, m with
  | some (.map kt _), .map (some r) =>
    match h.get r with
    | some (.map es) =>
      if flat k then
        match pureRun P (Instr.checkKey false 10000 kt k), P.underlying kt, findE P kt k es 0 with
        | some _, some _, some (some i) => match es[i]? with
          | some e => if flat e.1 && Instr.sameBits 10000 e.1 k then some (.skip, h.set r (.map ((setEntry es i v).modify i fun e => (k, e.2))), n) else none
          | none => none
        | some _, some _, some none => some (.skip, h.set r (.map (es ++ [(k, v)])), n)
        | _, _, _ => none
      else none
    | _ => none
  | _, _ => none

theorem mapUpdateE_sound {P : Program} {μ : Mu} {h : Heap} {n : Nat} {w : World} (r : Rel P μ h n w) {t : TypeId} {m m' k k' v v' : Value} (hm : VRel μ m m') (hk : VRel μ k k') (hv : VRel μ v v') {y : ARes × Heap × Nat} (e : mapUpdateE P t m k v h n = some y) :
    ARun P (do Instr.mapUpdate t m' k' v'; pure .skip) μ h n w y := by
  unfold mapUpdateE at e
  split at e
  · rename_i kt el b hu
    cases hm with
    | map hmu =>
      rename_i m0
      split at e
      · rename_i es hb
        split at e
        · rename_i hf
          rw [hk.flat_eq hf]
          obtain ⟨m1, x1, f1, f2, f3⟩ := r.obj b _ hb
          rw [hmu] at f1; cases f1
          cases x1 with
          | map es' clock =>
            obtain ⟨g0, g1, g2, g3, g4⟩ := f3
            have he : ERelM μ es es'.toList := ERelM.of_get (by simpa using g1) (fun i e he => by simpa using g2 i e he)
            have hget : (getObj m0.blk).run P w = .ok (.map es' clock) w := by simp [getObj, Sem.run, f2]
            have hset : ∀ x, (∀ c e f, x ≠ .cells c e f) → (setObj m0.blk x).run P w = .ok () { w with heap := w.heap.setIfInBounds m0.blk x } := by
              intro x _; simp [setObj, Sem.run, f2]
            split at e
            · rename_i u d i hck hkt hfd
              have hfind := findKey_sound (P := P) hkt w he hfd
              have hchk := pureRun_run _ w hck
              split at e
              · rename_i en hen
                split at e
                · rename_i hsame
                  simp only [Bool.and_eq_true] at hsame
                  cases e
                  obtain ⟨e', q1, q2, q3⟩ := he.get hen
                  have hq1 : es'[i]? = some e' := by simpa using q1
                  rw [Option.bind_some, q1, Option.map_some] at hfind
                  have hkey : e'.key = en.1 := q2.flat_eq hsame.1
                  have hstay : (Instr.keyThatStays (((es'[i]?).map (·.key)).getD k) k).run P w = .ok k w := by
                    rw [hq1]
                    simp [Instr.keyThatStays, hkey, hsame.2]
                  have hrun : (do Instr.mapUpdate t (.map (some m0.blk)) k v'; pure .skip : Sem Next).run P w = .ok .skip { w with heap := w.heap.setIfInBounds m0.blk (.map (es'.modify i fun e => { e with key := k, val := v' }) clock) } := by
                    simp only [Instr.mapUpdate, Sem.run_bind, run_underlying_of hu, Result.andThen_ok, hget, hchk, hfind, hstay]
                    rw [hset _ (by simp)]
                    rfl
                  have hturn := r.turn (o' := .map ((setEntry es i v).modify i fun e => (k, e.2))) (.map (es'.modify i fun e => { e with key := k, val := v' }) clock) hb rfl hmu
                    (w' := { w with heap := w.heap.setIfInBounds m0.blk (.map (es'.modify i fun e => { e with key := k, val := v' }) clock) }) ?_ rfl rfl rfl rfl
                  · refine ⟨μ, _, ?_, hturn.1, hturn.2, Nat.le_refl _⟩
                    rw [hrun]
                    exact .skip
                  · refine ⟨g0, ?_, ?_, ?_, ?_⟩
                    · rw [List.length_modify, Array.size_modify, ← g1]
                      have : ∀ (l : List (Value × Value)) (i : Nat), (setEntry l i v).length = l.length := by
                        intro l; induction l with
                        | nil => intro i; rfl
                        | cons a l ih => intro i; cases i <;> simp [setEntry, ih]
                      exact this es i
                    · intro j a hj
                      rw [List.getElem?_modify, setEntry_get] at hj
                      cases hej : es[j]? with
                      | none => rw [hej] at hj; simp at hj
                      | some ej =>
                        rw [hej] at hj
                        obtain ⟨ej', p1, p2, p3⟩ := g2 j ej hej
                        by_cases hij : i = j
                        · subst hij
                          simp at hj
                          subst hj
                          exact ⟨{ ej' with key := k, val := v' }, by rw [Array.getElem?_modify]; simp [p1], .flat_self hf, hv⟩
                        · have hji : ¬ j = i := fun h => hij h.symm
                          simp [hij, hji] at hj
                          subst hj
                          exact ⟨ej', by rw [Array.getElem?_modify]; simp [hij, p1], p2, p3⟩
                    · intro j a hj
                      rw [Array.getElem?_modify] at hj
                      split at hj
                      · simp only [Option.map_eq_some_iff] at hj
                        obtain ⟨a0, h1, rfl⟩ := hj
                        exact g3 j a0 h1
                      · exact g3 j a hj
                    · intro j1 j2 a1 a2 hlt h1 h2
                      have hb : ∀ (j : Nat) (a : MapEntry), (es'.modify i fun e => { e with key := k, val := v' })[j]? = some a → ∃ a0 : MapEntry, es'[j]? = some a0 ∧ a0.born = a.born := by
                        intro j a hj
                        rw [Array.getElem?_modify] at hj
                        split at hj
                        · simp only [Option.map_eq_some_iff] at hj
                          obtain ⟨a0, h1, rfl⟩ := hj
                          exact ⟨a0, h1, rfl⟩
                        · exact ⟨a, hj, rfl⟩
                      obtain ⟨b1, c1, c2⟩ := hb j1 a1 h1
                      obtain ⟨b2, c3, c4⟩ := hb j2 a2 h2
                      rw [← c2, ← c4]
                      exact g4 j1 j2 b1 b2 hlt c1 c3
                · cases e
              · cases e
            · rename_i u d hck hkt hfd
              have hfind := findKey_sound (P := P) hkt w he hfd
              have hchk := pureRun_run _ w hck
              cases e
              rw [Option.bind_none] at hfind
              have hrun : (do Instr.mapUpdate t (.map (some m0.blk)) k v'; pure .skip : Sem Next).run P w = .ok .skip { w with heap := w.heap.setIfInBounds m0.blk (.map (es'.push { key := k, val := v', born := clock }) (clock + 1)) } := by
                simp only [Instr.mapUpdate, Sem.run_bind, run_underlying_of hu, Result.andThen_ok, hget, hchk, hfind]
                rw [hset _ (by simp)]
                rfl
              have hturn := r.turn (o' := .map (es ++ [(k, v)])) (.map (es'.push { key := k, val := v', born := clock }) (clock + 1)) hb rfl hmu
                (w' := { w with heap := w.heap.setIfInBounds m0.blk (.map (es'.push { key := k, val := v', born := clock }) (clock + 1)) }) ?_ rfl rfl rfl rfl
              · refine ⟨μ, _, ?_, hturn.1, hturn.2, Nat.le_refl _⟩
                rw [hrun]
                exact .skip
              · refine ⟨g0, by simp [g1], ?_, ?_, ?_⟩
                · intro j a hj
                  by_cases hlt : j < es.length
                  · rw [List.getElem?_append_left hlt] at hj
                    obtain ⟨e', p1, p2, p3⟩ := g2 j a hj
                    exact ⟨e', by rw [Array.getElem?_push, if_neg (by omega)]; exact p1, p2, p3⟩
                  · rw [List.getElem?_append_right (by omega)] at hj
                    have hj0 : j = es.length := by
                      have := (List.getElem?_eq_some_iff.1 hj).1
                      simp at this; omega
                    subst hj0
                    simp at hj
                    subst hj
                    exact ⟨{ key := k, val := v', born := clock }, by rw [Array.getElem?_push, if_pos g1], .flat_self hf, hv⟩
                · intro j a hj
                  rw [Array.getElem?_push] at hj
                  split at hj
                  · cases hj; simp
                  · have := g3 j a hj; omega
                · intro j1 j2 a1 a2 hlt h1 h2
                  rw [Array.getElem?_push] at h1 h2
                  split at h1
                  · rename_i h
                    split at h2
                    · omega
                    · have := (Array.getElem?_eq_some_iff.1 h2).1; omega
                  · split at h2
                    · cases h2; exact g3 j1 a1 h1
                    · exact g4 j1 j2 a1 a2 hlt h1 h2
            · cases e
          | _ => exact f3.elim
        · cases e
      · cases e
  · cases e
end Go.Abs
