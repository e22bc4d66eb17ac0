/- Operations that read no memory, all of them. -/
import Derived.Test.YtkpjfibpaojelaaGreatDoorAbs7
namespace Go.Abs
open Go

/-- Of values without an address: the model's own text, run. -/
def flatRun (P : Program) (s : Sem Value) : Option Value :=
  match pureRun P s with
  | some v => if flat v then some v else none
  | none => none

theorem flatRun_sound {P : Program} {s : Sem Value} {v : Value} (e : flatRun P s = some v) (μ : Mu) (w : World) : s.run P w = .ok v w ∧ VRel μ v v := by
  unfold flatRun at e
  split at e
  · rename_i v0 e0
    split at e
    · rename_i hf
      cases e
      exact ⟨pureRun_run _ w e0, .flat_self hf⟩
    · cases e
  · cases e

def sliceS (s : ByteArray) (l h : Nat) : ByteArray := ⟨((s.data.toList.drop l).take (h - l)).toArray⟩

theorem sliceS_eq (s : ByteArray) (l h : Nat) : s.extract l h = sliceS s l h := by
  unfold sliceS
  apply ByteArray.ext
  apply Array.ext'
  rw [ByteArray.data_extract]
  simp [Array.toList_extract, List.extract_eq_take_drop]

/-- A struct or an array out of its parts. -/
def fillE (place : Nat → Option (Nat × Nat)) : List Value → List (Nat × Value) → Option (List Value)
  | cells, [] => some cells
  | cells, (i, v) :: rest =>
    match place i with
    | none => none
    | some (off, size) => if v.cells.toList.length = size ∧ off + size ≤ cells.length then fillE place (setAll cells off v.cells.toList) rest else none

theorem setAll_foldl : ∀ (xs : List Value) (k : Nat) (cs : Array Value) (off : Nat),
    ((xs.zipIdx k).foldl (fun cs (x : Value × Nat) => cs.setIfInBounds (off + x.2) x.1) cs).toList = setAll cs.toList (off + k) xs := by
  intro xs
  induction xs with
  | nil => intros; rfl
  | cons x xs ih =>
    intro k cs off
    simp only [List.zipIdx_cons, List.foldl_cons, setAll]
    rw [ih]
    simp [Nat.add_assoc]

/-- Lists of values, place by place. -/
inductive LRel (μ : Mu) : List Value → List Value → Prop
  | nil : LRel μ [] []
  | cons {x y : Value} {xs ys : List Value} (h : VRel μ x y) (t : LRel μ xs ys) : LRel μ (x :: xs) (y :: ys)

theorem LRel.length {μ : Mu} {xs ys : List Value} (h : LRel μ xs ys) : ys.length = xs.length := by
  induction h with
  | nil => rfl
  | cons _ _ ih => simp [ih]

theorem LRel.get {μ : Mu} {xs ys : List Value} (h : LRel μ xs ys) : ∀ {i : Nat} {x : Value}, xs[i]? = some x → ∃ y, ys[i]? = some y ∧ VRel μ x y := by
  induction h with
  | nil => intro i x e; simp at e
  | cons hx _ ih =>
    intro i x e
    cases i with
    | zero => simp at e; subst e; exact ⟨_, by simp, hx⟩
    | succ i => simpa using ih (by simpa using e)

theorem LRel.of_get {μ : Mu} : ∀ {xs ys : List Value}, xs.length = ys.length → (∀ (i : Nat) (x y : Value), xs[i]? = some x → ys[i]? = some y → VRel μ x y) → LRel μ xs ys := by
  intro xs
  induction xs with
  | nil => intro ys hl _; cases ys with
    | nil => exact .nil
    | cons y ys => simp at hl
  | cons x xs ih =>
    intro ys hl h
    cases ys with
    | nil => simp at hl
    | cons y ys => exact .cons (h 0 x y (by simp) (by simp)) (ih (by simpa using hl) fun i a b ha hb => h (i + 1) a b (by simpa using ha) (by simpa using hb))

theorem LRel.arr {μ : Mu} {xs ys : List Value} (h : LRel μ xs ys) : ARel μ xs.toArray ys.toArray :=
  ⟨by simp [h.length], fun i a b ha hb => by
    simp only [List.getElem?_toArray] at ha hb
    obtain ⟨y, e, r⟩ := h.get ha
    rw [e] at hb; cases hb; exact r⟩

theorem ARel.list {μ : Mu} {xs ys : Array Value} (h : ARel μ xs ys) : LRel μ xs.toList ys.toList :=
  .of_get (by simpa using h.1) fun i a b ha hb => h.2 i a b (by simpa using ha) (by simpa using hb)

theorem LRel.set {μ : Mu} {xs ys : List Value} (h : LRel μ xs ys) {x y : Value} (hx : VRel μ x y) : ∀ i : Nat, LRel μ (xs.set i x) (ys.set i y) := by
  induction h with
  | nil => intro i; exact .nil
  | cons h0 t ih =>
    intro i
    cases i with
    | zero => exact .cons hx t
    | succ i => exact .cons h0 (ih i)

theorem LRel.setAll {μ : Mu} {us vs : List Value} (hu : LRel μ us vs) : ∀ {xs ys : List Value} (o : Nat), LRel μ xs ys → LRel μ (setAll xs o us) (setAll ys o vs) := by
  induction hu with
  | nil => intro xs ys o h; exact h
  | cons hx _ ih => intro xs ys o h; exact ih (o + 1) (h.set hx o)

theorem LRel.append {μ : Mu} {a b c d : List Value} (h : LRel μ a b) (k : LRel μ c d) : LRel μ (a ++ c) (b ++ d) := by
  induction h with
  | nil => exact k
  | cons hx _ ih => exact .cons hx ih

theorem LRel.mono {μ μ' : Mu} (h : μ.le μ') {a b : List Value} (k : LRel μ a b) : LRel μ' a b := by
  induction k with
  | nil => exact .nil
  | cons hx _ ih => exact .cons (hx.mono h) ih

theorem LRel.flat {μ : Mu} : ∀ {a : List Value}, (a.all Abs.flat) = true → LRel μ a a := by
  intro a
  induction a with
  | nil => intro _; exact .nil
  | cons x xs ih => intro h; simp only [List.all_cons, Bool.and_eq_true] at h; exact .cons (.flat_self h.1) (ih h.2)

/-- Parts with their places. -/
inductive PRel (μ : Mu) : List (Nat × Value) → List (Nat × Value) → Prop
  | nil : PRel μ [] []
  | cons {i : Nat} {x y : Value} {xs ys : List (Nat × Value)} (h : VRel μ x y) (t : PRel μ xs ys) : PRel μ ((i, x) :: xs) ((i, y) :: ys)

theorem fillE_sound {μ : Mu} {place : Nat → Option (Nat × Nat)} : ∀ {ps ps' : List (Nat × Value)} {cells cells' : List Value} {r : List Value}, PRel μ ps ps' → LRel μ cells cells' →
    fillE place cells ps = some r → ∃ r', Instr.fill place cells'.toArray ps' = some r'.toArray ∧ LRel μ r r' := by
  intro ps
  induction ps with
  | nil =>
    intro ps' cells cells' r hp hc e
    cases hp
    simp only [fillE, Option.some.injEq] at e
    subst e
    exact ⟨cells', rfl, hc⟩
  | cons p ps ih =>
    intro ps' cells cells' r hp hc e
    cases hp with
    | cons hx ht =>
      rename_i i x y ys
      simp only [fillE] at e
      split at e
      · cases e
      · rename_i off size hpl
        split at e
        · rename_i hcond
          have hcx := hx.cells.list
          obtain ⟨r', e1, e2⟩ := ih ht (hcx.setAll off hc) e
          refine ⟨r', ?_, e2⟩
          simp only [Instr.fill, hpl]
          have hs : y.cells.size = size := by
            have := hcx.length
            simp only [Array.length_toList] at this hcond
            omega
          have hle : off + y.cells.size ≤ cells'.toArray.size := by
            have := hc.length
            simp only [List.size_toArray]
            omega
          rw [if_neg (by simp only [hs, ne_eq, not_true_eq_false, decide_false, Bool.false_or, decide_eq_true_eq]; omega)]
          rw [← e1]
          congr 1
          apply Array.ext'
          rw [← Array.foldl_toList, Array.toList_zipIdx]
          have := setAll_foldl y.cells.toList 0 cells'.toArray off
          simpa using this
        · cases e

theorem PRel.of_map {μ : Mu} {ρ ρ' : Operand → Value} : ∀ (ps : List (Nat × Operand)), (∀ x ∈ ps.map (·.2), VRel μ (ρ x) (ρ' x)) → PRel μ (ps.map fun p => (p.1, ρ p.2)) (ps.map fun p => (p.1, ρ' p.2)) := by
  intro ps
  induction ps with
  | nil => intro _; exact .nil
  | cons p ps ih => intro h; exact .cons (h p.2 (by simp)) (ih fun x hx => h x (by simp at hx ⊢; exact .inr hx))

/-- The places of a struct's fields. -/
def placesE (P : Program) : List Field → Option (List (Nat × Nat))
  | [] => some []
  | f :: fs => match P.info? f.type, placesE P fs with
    | some i, some r => some ((f.offset, i.size) :: r)
    | _, _ => none

theorem placesE_sound {P : Program} (w : World) : ∀ {fs : List Field} {r : List (Nat × Nat)}, placesE P fs = some r →
    (fs.mapM (m := Sem) fun f => do pure (f.offset, ← Go.sizeOf f.type)).run P w = .ok r w := by
  intro fs
  induction fs with
  | nil => intro r e; simp only [placesE, Option.some.injEq] at e; subst e; rfl
  | cons f fs ih =>
    intro r e
    simp only [placesE] at e
    split at e
    · rename_i i r0 hi hr
      simp only [Option.some.injEq] at e; subst e
      have := ih hr
      simp only [List.mapM_cons, Sem.run_bind, run_sizeOf_of hi, Result.andThen_ok, Sem.run_pure]
      rw [this]
      rfl
    · cases e

def buildE (P : Program) (t : TypeId) (parts : List (Nat × Value)) : Option Value :=
  match P.info? t, P.underlying t with
  | some i, some (.struct fields) =>
    match i.zero, placesE P fields.toList with
    | some z, some pl => if z.cells.toList.all flat then (fillE (fun j => pl[j]?) z.cells.toList parts).map fun cs => .agg cs.toArray else none
    | _, _ => none
  | some i, some (.array _ elem) =>
    match i.zero, P.info? elem with
    | some z, some ie => if z.cells.toList.all flat then (fillE (fun j => some (j * ie.size, ie.size)) z.cells.toList parts).map fun cs => .agg cs.toArray else none
    | _, _ => none
  | _, _ => none

theorem run_zeroValue_of {P : Program} {t : TypeId} {i : TypeInfo} {z : Value} (h : P.info? t = some i) (hz : i.zero = some z) (w : World) : (zeroValue t).run P w = .ok z w := by
  simp [zeroValue, typeInfo, h, hz]

theorem buildE_sound {P : Program} {μ : Mu} {t : TypeId} {ps ps' : List (Nat × Value)} {v : Value} (hp : PRel μ ps ps') (e : buildE P t ps = some v) (w : World) :
    ∃ v', (Instr.build t ps'.toArray).run P w = .ok v' w ∧ VRel μ v v' := by
  unfold buildE at e
  split at e
  · rename_i i fields hi hu
    split at e
    · rename_i z pl hz hpl
      split at e
      · rename_i hfl
        simp only [Option.map_eq_some_iff] at e
        obtain ⟨cs, e, rfl⟩ := e
        obtain ⟨r', e1, e2⟩ := fillE_sound hp (LRel.flat hfl) e
        refine ⟨.agg r'.toArray, ?_, e2.arr.agg⟩
        simp only [Instr.build, Sem.run_bind, run_zeroValue_of hi hz, Result.andThen_ok, run_underlying_of hu]
        have := placesE_sound (P := P) w hpl
        rw [Array.mapM_eq_mapM_toList, Sem.run_map, this]
        simp only [Result.andThen_ok]
        have hpl2 : (fun x : Nat => pl.toArray[x]?) = fun j => pl[j]? := by funext j; simp
        rw [hpl2]
        simp only [Array.toArray_toList] at e1
        simp only [e1, Sem.run_pure]
      · cases e
    · cases e
  · rename_i i n elem hi hu
    split at e
    · rename_i z ie hz hie
      split at e
      · rename_i hfl
        simp only [Option.map_eq_some_iff] at e
        obtain ⟨cs, e, rfl⟩ := e
        obtain ⟨r', e1, e2⟩ := fillE_sound hp (LRel.flat hfl) e
        refine ⟨.agg r'.toArray, ?_, e2.arr.agg⟩
        simp only [Instr.build, Sem.run_bind, run_zeroValue_of hi hz, Result.andThen_ok, run_underlying_of hu, run_sizeOf_of hie]
        simp only [Array.toArray_toList] at e1
        simp only [e1, Sem.run_pure]
      · cases e
    · cases e
  · cases e
end Go.Abs
