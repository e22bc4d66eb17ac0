/- Operations that act: new memory, stores, maps. -/
import Derived.Test.YtkpjfibpaojelaaGreatDoorAbs12
namespace Go.Abs
open Go

inductive ARes where
  | val (v : Value)
  | skip
  | ent (f : FuncId) (args : List Value)
  | dfr (d : Deferred)
  | pan (v : Value)

/-- What an operation that acts comes to. -/
inductive NRel (μ : Mu) : ARes → Result Next → World → Prop
  | val {v v' : Value} {w : World} (h : VRel μ v v') : NRel μ (.val v) (.ok (.value v') w) w
  | skip {w : World} : NRel μ .skip (.ok .skip w) w
  | ent {f : FuncId} {a a' : List Value} {w : World} (h : LRel μ a a') : NRel μ (.ent f a) (.ok (.enter f a'.toArray) w) w
  | dfr {d d' : Deferred} {w : World} (h : DRel μ d d') : NRel μ (.dfr d) (.ok (.defer d') w) w
  | pan {v v' : Value} {w : World} (h : VRel μ v v') : NRel μ (.pan v) (.halt (.panic v') w) w

def ARun (P : Program) (s : Sem Next) (μ : Mu) (h : Heap) (n : Nat) (w : World) (x : ARes × Heap × Nat) : Prop :=
  ∃ μ' w', NRel μ' x.1 (s.run P w) w' ∧ Rel P μ' x.2.1 x.2.2 w' ∧ Grow μ h w μ' x.2.1 w' ∧ n ≤ x.2.2

theorem Rel.globs {P : Program} {μ : Mu} {h : Heap} {n : Nat} {w : World} (r : Rel P μ h n w) : P.globals.size ≤ n := by
  rcases Nat.lt_or_ge n P.globals.size with hlt | hge
  · obtain ⟨m, hm, _⟩ := r.glob n hlt
    rw [r.bound n (Nat.le_refl _)] at hm
    cases hm
  · exact hge

/-- A new row of cells, with more cells behind those that are told. -/
theorem Rel.row {P : Program} {μ : Mu} {h : Heap} {n : Nat} {w : World} (r : Rel P μ h n w) {xs xs' rest : List Value} (hx : LRel μ xs xs') (e : TypeId) (k : Nat) (whole : Bool) (hw : whole = true → rest = []) (fr : Nat × Nat) (hfr : xs'.length + rest.length ≤ fr.1 ∨ fr.2 ≤ fr.1) :
    Rel P (μ.set n ⟨w.heap.size, 0, xs'.length + rest.length, k⟩) (h.set n (.cells xs true ⟨e, k, whole⟩)) (n + 1) { w with heap := w.heap.push (.cells (xs' ++ rest).toArray e fr) } ∧
    Grow μ h w (μ.set n ⟨w.heap.size, 0, xs'.length + rest.length, k⟩) (h.set n (.cells xs true ⟨e, k, whole⟩)) { w with heap := w.heap.push (.cells (xs' ++ rest).toArray e fr) } := by
  have hle : μ.le (μ.set n ⟨w.heap.size, 0, xs'.length + rest.length, k⟩) := Mu.le_set (r.bound n (Nat.le_refl _))
  have hl := hx.length
  refine r.push _ _ _ rfl r.globs ⟨by simp, by simp; omega, ?_, ?_, rfl, rfl, ?_⟩
  · intro i v hi
    obtain ⟨v', h1, h2⟩ := hx.get hi
    refine ⟨v', ?_, h2.mono hle⟩
    have hlt := (List.getElem?_eq_some_iff.1 h1).1
    simp only [Nat.zero_add, List.getElem?_toArray]
    rw [List.getElem?_append_left hlt]; exact h1
  · intro _ i _ hi
    simp at hi
    omega
  · intro hwh
    have := hw hwh
    subst this
    simp [hl]

theorem VRel.new {μ : Mu} {n : Nat} {m : Im} (hoff : m.off = 0) (o : Nat) : VRel (μ.set n m) (.pointer (some ⟨n, o, none⟩)) (.pointer (some ⟨m.blk, o, none⟩)) := by
  have := VRel.ptr (μ := μ.set n m) o (Mu.set_same μ n m)
  rw [hoff, Nat.zero_add] at this
  exact this

theorem VRel.newSlice {μ : Mu} {n : Nat} {m : Im} (hoff : m.off = 0) (len cap cap' : Nat) (hc : (cap < U ∧ cap = cap') ∨ (cap = U ∧ len ≤ cap' ∧ cap' * m.k ≤ m.sz)) :
    VRel (μ.set n m) (.slice (some ⟨n, 0, none⟩) len cap) (.slice (some ⟨m.blk, 0, none⟩) len cap') := by
  have := VRel.slice (μ := μ.set n m) 0 len cap cap' (Mu.set_same μ n m) (by rw [hoff]; simpa using hc)
  rw [hoff] at this
  exact this

def zeroOf (P : Program) (t : TypeId) : Option Value :=
  match P.info? t with
  | some i => match i.zero with
    | some z => if z.cells.toList.all flat && flat z then some z else none
    | none => none
  | none => none

theorem zeroOf_run {P : Program} {t : TypeId} {z : Value} (e : zeroOf P t = some z) (w : World) : (zeroValue t).run P w = .ok z w ∧ (z.cells.toList.all flat) = true ∧ flat z = true := by
  unfold zeroOf at e
  split at e
  · rename_i i hi
    split at e
    · rename_i z0 hz
      split at e
      · rename_i hf
        cases e
        simp only [Bool.and_eq_true] at hf
        exact ⟨run_zeroValue_of hi hz w, hf.1, hf.2⟩
      · cases e
    · cases e
  · cases e

def allocE (P : Program) (t : TypeId) (h : Heap) (n : Nat) : Option (ARes × Heap × Nat) :=
  match zeroOf P t with
  | some z => some (.val (.pointer (some ⟨n, 0, none⟩)), h.set n (.cells z.cells.toList true ⟨t, 0, true⟩), n + 1)
  | none => none

theorem arr_of_list (c : Array Value) : (c.toList ++ []).toArray = c := by apply Array.ext'; simp

theorem allocE_sound {P : Program} {μ : Mu} {h : Heap} {n : Nat} {w : World} (r : Rel P μ h n w) {t : TypeId} {x : ARes × Heap × Nat} (e : allocE P t h n = some x) :
    ARun P (do pure (.value (← Instr.alloc t true (.tuple #[])))) μ h n w x := by
  unfold allocE at e
  split at e
  · rename_i z hz
    cases e
    obtain ⟨q1, q2, _⟩ := zeroOf_run hz w
    obtain ⟨g1, g2⟩ := r.row (rest := []) (LRel.flat q2) t 0 true (fun _ => rfl) (0, 0) (.inr (Nat.le_refl _))
    rw [arr_of_list] at g1 g2
    refine ⟨_, _, ?_, g1, g2, Nat.le_succ _⟩
    have : (do pure (.value (← Instr.alloc t true (.tuple #[]))) : Sem Next).run P w = .ok (.value (.pointer (some ⟨w.heap.size, 0, none⟩))) { w with heap := w.heap.push (.cells z.cells t (0, 0)) } := by
      simp [Instr.alloc, q1, newVar, newRow]
    rw [this]
    exact .val (.new rfl 0)
  · cases e

def boxE (t : TypeId) (v : Value) (h : Heap) (n : Nat) : ARes × Heap × Nat :=
  (.val (.pointer (some ⟨n, 0, none⟩)), h.set n (.cells v.cells.toList true ⟨t, 0, true⟩), n + 1)

theorem boxE_sound {P : Program} {μ : Mu} {h : Heap} {n : Nat} {w : World} (r : Rel P μ h n w) {t : TypeId} {v v' : Value} (hv : VRel μ v v') :
    ARun P (do pure (.value (← Instr.box t v'))) μ h n w (boxE t v h n) := by
  obtain ⟨g1, g2⟩ := r.row (rest := []) hv.cells.list t 0 true (fun _ => rfl) (0, 0) (.inr (Nat.le_refl _))
  rw [arr_of_list] at g1 g2
  refine ⟨_, _, ?_, g1, g2, Nat.le_succ _⟩
  have : (do pure (.value (← Instr.box t v')) : Sem Next).run P w = .ok (.value (.pointer (some ⟨w.heap.size, 0, none⟩))) { w with heap := w.heap.push (.cells v'.cells t (0, 0)) } := by
    simp [Instr.box, newVar, newRow]
  rw [this]
  exact .val (.new rfl 0)

/-- So many zero values. -/
def zerosE (z : List Value) (n : Nat) : List Value := (List.replicate n z).flatten

theorem length_zerosE (z : List Value) (n : Nat) : (zerosE z n).length = n * z.length := by simp [zerosE]

theorem get_zerosE (z : List Value) : ∀ (n i : Nat), i < n * z.length → (zerosE z n)[i]? = z[i % z.length]? := by
  intro n
  induction n with
  | zero => intro i h; omega
  | succ n ih =>
    intro i h
    have e : zerosE z (n + 1) = z ++ zerosE z n := by simp [zerosE, List.replicate_succ]
    rw [e]
    by_cases hi : i < z.length
    · rw [List.getElem?_append_left hi, Nat.mod_eq_of_lt hi]
    · have hi' : z.length ≤ i := by omega
      rw [List.getElem?_append_right hi', ih (i - z.length) (by rw [Nat.add_mul] at h; omega), ← Nat.mod_eq_sub_mod hi']

theorem zeros_model (z : Array Value) (n : Nat) : (Array.range (n * z.size)).map (fun i => z[i % z.size]!) = (zerosE z.toList n).toArray := by
  apply Array.ext'
  apply List.ext_getElem?
  intro i
  simp only [Array.toList_map, Array.toList_range, List.getElem?_map]
  by_cases h : i < n * z.size
  · rw [get_zerosE _ _ _ (by simpa using h)]
    have hz : 0 < z.size := by
      rcases Nat.eq_zero_or_pos z.size with h0 | h0
      · rw [h0] at h; omega
      · exact h0
    have hm : i % z.size < z.size := Nat.mod_lt _ hz
    rw [List.getElem?_range h]
    simp [hm]
  · rw [List.getElem?_eq_none (by simp; omega), List.getElem?_eq_none (by rw [length_zerosE]; simp; omega)]
    rfl

theorem flat_zerosE {z : List Value} (h : (z.all flat) = true) (n : Nat) : ((zerosE z n).all flat) = true := by
  rw [List.all_eq_true] at *
  intro x hx
  simp only [zerosE, List.mem_flatten, List.mem_replicate] at hx
  obtain ⟨l, ⟨_, rfl⟩, hx⟩ := hx
  exact h x hx

def buildSliceE (P : Program) (t : TypeId) (len : Nat) (parts : List (Nat × Value)) (h : Heap) (n : Nat) : Option (ARes × Heap × Nat) :=
  match P.underlying t with
  | some (.slice elem) =>
    match P.info? elem, zeroOf P elem with
    | some i, some z =>
      if z.cells.toList.length = i.size ∧ len * i.size ≤ 2 ^ 24 ∧ len ≤ 2 ^ 24 then
        match fillE (fun j => some (j * i.size, i.size)) (zerosE z.cells.toList len) parts with
        | some cells => some (.val (.slice (some ⟨n, 0, none⟩) len len), h.set n (.cells cells true ⟨elem, 0, true⟩), n + 1)
        | none => none
      else none
    | _, _ => none
  | _ => none

theorem buildSliceE_sound {P : Program} {μ : Mu} {h : Heap} {n : Nat} {w : World} (r : Rel P μ h n w) {t : TypeId} {len : Nat} {ps ps' : List (Nat × Value)} (hp : PRel μ ps ps') {x : ARes × Heap × Nat} (e : buildSliceE P t len ps h n = some x) :
    ARun P (do pure (.value (← Instr.buildSlice t len ps'.toArray))) μ h n w x := by
  unfold buildSliceE at e
  split at e
  · rename_i elem hu
    split at e
    · rename_i i z hi hz
      split at e
      · rename_i hc
        obtain ⟨c1, c2, c3⟩ := hc
        split at e
        · rename_i cells hfl
          cases e
          obtain ⟨q1, q2, _⟩ := zeroOf_run hz w
          obtain ⟨cells', p1, p2⟩ := fillE_sound hp (LRel.flat (flat_zerosE q2 len)) hfl
          obtain ⟨g1, g2⟩ := r.row (rest := []) p2 elem 0 true (fun _ => rfl) (0, 0) (.inr (Nat.le_refl _))
          rw [List.append_nil] at g1 g2
          refine ⟨_, _, ?_, g1, g2, Nat.le_succ _⟩
          have hzs : z.cells.size = i.size := by simpa using c1
          have hmap : (Array.range (len * i.size)).map (fun j => (if len * i.size = 0 then #[] else z.cells)[j % (if len * i.size = 0 then #[] else z.cells).size]!) = (zerosE z.cells.toList len).toArray := by
            by_cases h0 : len * i.size = 0
            · rw [h0]
              have : (zerosE z.cells.toList len) = [] := by
                apply List.eq_nil_of_length_eq_zero
                rw [length_zerosE, c1]; exact h0
              rw [this]
              simp
            · simp only [if_neg h0]
              rw [← hzs]; exact zeros_model _ _
          have : (do pure (.value (← Instr.buildSlice t len ps'.toArray)) : Sem Next).run P w = .ok (.value (.slice (some ⟨w.heap.size, 0, none⟩) len len)) { w with heap := w.heap.push (.cells cells'.toArray elem (0, 0)) } := by
            have hgt : ¬ (len * i.size > 2 ^ 24) := by omega
            by_cases h0 : len * i.size = 0
            · have hz0 : zerosE z.cells.toList len = [] := by
                apply List.eq_nil_of_length_eq_zero
                rw [length_zerosE, c1]; exact h0
              rw [hz0] at p1
              have hr1 : (Array.range 0).map (fun _ => (default : Value)) = #[] := by apply Array.ext'; simp
              simp only [Instr.buildSlice, Sem.run_bind, run_underlying_of hu, Result.andThen_ok, run_sizeOf_of hi, h0, if_true, Sem.run_pure]
              simp [hr1, p1, newRow]
            · simp only [h0, if_false] at hmap
              simp only [Instr.buildSlice, Sem.run_bind, run_underlying_of hu, Result.andThen_ok, run_sizeOf_of hi, hgt, if_false, h0, q1, Sem.run_pure, hmap, p1, newRow, run_newObj]
          rw [this]
          exact .val (.newSlice rfl _ _ _ (.inl ⟨by unfold U; omega, rfl⟩))
        · cases e
      · cases e
    · cases e
  · cases e
end Go.Abs
