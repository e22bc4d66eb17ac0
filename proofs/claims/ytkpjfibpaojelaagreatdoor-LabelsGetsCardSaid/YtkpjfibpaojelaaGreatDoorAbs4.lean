/- Loads and stores. -/
import Derived.Test.YtkpjfibpaojelaaGreatDoorAbs3
import Derived.Laws.Sem
namespace Go.Abs
open Go

theorem VRel.cells {μ : Mu} {v v' : Value} (r : VRel μ v v') : ARel μ v.cells v'.cells := by
  have one : ∀ {x y : Value}, VRel μ x y → ARel μ #[x] #[y] := by
    intro x y h
    refine ⟨rfl, fun i a b ha hb => ?_⟩
    cases i with
    | zero => simp at ha hb; subst ha; subst hb; exact h
    | succ i => simp at ha
  cases r with
  | agg hc h => exact ⟨hc, h⟩
  | bool b => exact one (.bool b)
  | int k n => exact one (.int k n)
  | string s => exact one (.string s)
  | pnil => exact one .pnil
  | ptr o e => exact one (.ptr o e)
  | snil => exact one .snil
  | slice o len cap cap' e hc => exact one (.slice o len cap cap' e hc)
  | mnil => exact one .mnil
  | map e => exact one (.map e)
  | nilFunc => exact one .nilFunc
  | func fn hf hc a b => exact one (.func fn hf hc a b)
  | nilIface => exact one .nilIface
  | iface t h => exact one (.iface t h)
  | tuple hc h => exact one (.tuple hc h)

theorem VRel.oneCell {μ : Mu} {v v' : Value} (r : VRel μ v v') : v'.oneCell' = v.oneCell' := by cases r <;> rfl

def isAggE (P : Program) (t : TypeId) : Option Bool :=
  match P.underlying t with
  | some (.struct _) => some true
  | some (.array _ _) => some true
  | some _ => some false
  | none => none

theorem run_underlying_of {P : Program} {t : TypeId} {d : TypeDesc} (h : P.underlying t = some d) (w : World) : (underlying t).run P w = .ok d w := by
  simp [underlying, h]

theorem run_typeInfo_of {P : Program} {t : TypeId} {d : TypeInfo} (h : P.info? t = some d) (w : World) : (typeInfo t).run P w = .ok d w := by
  simp [typeInfo, h]

theorem run_sizeOf_of {P : Program} {t : TypeId} {d : TypeInfo} (h : P.info? t = some d) (w : World) : (Go.sizeOf t).run P w = .ok d.size w := by
  simp [Go.sizeOf, typeInfo, h]

theorem run_isAgg_of {P : Program} {t : TypeId} {b : Bool} (h : isAggE P t = some b) (w : World) : (isAgg t).run P w = .ok b w := by
  unfold isAggE at h
  unfold isAgg
  split at h
  · rename_i f e; cases h; simp [run_underlying_of e]
  · rename_i f g e; cases h; simp [run_underlying_of e]
  · rename_i d h1 h2 e
    cases h
    simp only [Sem.run_bind, run_underlying_of e, Result.andThen_ok]
    cases d <;> first | rfl | exact (h1 _ rfl).elim | exact (h2 _ _ rfl).elim
  · cases h

theorem Addr.add_plain (b o i : Nat) : (⟨b, o, none⟩ : Addr).add i = ⟨b, o + i, none⟩ := by
  unfold Addr.add
  split
  · rename_i h; subst h; rfl
  · rfl

theorem cell_of_block {w : World} {b : Nat} {c : Array Value} {e : TypeId} {f : Nat × Nat} (h : w.heap[b]? = some (.cells c e f)) (o : Nat) : w.cell? ⟨b, o, none⟩ = c[o]? := by
  simp [World.cell?, h]

theorem run_load_cell {P : Program} {w : World} {a : Addr} {v : Value} (h : w.cell? a = some v) (m : Mode) : (load a m).run P w = .ok v w := by simp [h]

theorem run_loadCellsFrom {P : Program} {w : World} {b o : Nat} : ∀ (n i : Nat) (acc : Array Value) (xs : List Value), xs.length = n →
    (∀ j v, xs[j]? = some v → w.cell? ⟨b, o + (i + j), none⟩ = some v) → (loadCellsFrom ⟨b, o, none⟩ i n acc).run P w = .ok (acc ++ xs.toArray) w := by
  intro n
  induction n with
  | zero => intro i acc xs hl _; cases xs <;> simp_all [loadCellsFrom]
  | succ n ih =>
    intro i acc xs hl h
    cases xs with
    | nil => simp at hl
    | cons x xs =>
      have h0 := h 0 x (by simp)
      simp only [Nat.add_zero] at h0
      simp only [loadCellsFrom, Sem.run_bind, Addr.add_plain]
      rw [run_load_cell h0]
      simp only [Result.andThen_ok]
      rw [ih (i + 1) (acc.push x) xs (by simpa using hl) (fun j v hj => by
        have := h (j + 1) v (by simpa using hj)
        rw [show o + (i + 1 + j) = o + (i + (j + 1)) by omega]; exact this)]
      congr 1
      apply Array.ext'
      simp

theorem run_loadCells {P : Program} {w : World} {b o : Nat} (xs : List Value)
    (h : ∀ j v, xs[j]? = some v → w.cell? ⟨b, o + j, none⟩ = some v) : (loadCells ⟨b, o, none⟩ xs.length).run P w = .ok xs.toArray w := by
  unfold loadCells
  rw [run_loadCellsFrom xs.length 0 #[] xs rfl (fun j v hj => by rw [Nat.zero_add]; exact h j v hj)]
  simp

/-- The cells from a place on. -/
def rowE (h : Heap) (b o n : Nat) : Option (List Value) :=
  match h.get b with
  | some (.cells cs _ _) => if o + n ≤ cs.length then some ((cs.drop o).take n) else none
  | _ => none

/-- What a row of an abstract block is in the world. -/
theorem rowE_sound {P : Program} {μ : Mu} {h : Heap} {n : Nat} {w : World} (r : Rel P μ h n w) {b o k : Nat} {xs : List Value} (e : rowE h b o k = some xs) :
    ∃ m : Im, ∃ xs' : List Value, μ b = some m ∧ xs'.length = k ∧ xs.length = k ∧ (∀ j v, xs'[j]? = some v → w.cell? ⟨m.blk, m.off + o + j, none⟩ = some v) ∧ ARel μ xs.toArray xs'.toArray := by
  unfold rowE at e
  split at e
  · rename_i cs own kk hb
    split at e
    · rename_i hle
      cases e
      obtain ⟨m, x, f1, f2, f3⟩ := r.obj b _ hb
      cases x with
      | cells c el fr =>
        obtain ⟨g1, g2, g3, _⟩ := f3
        refine ⟨m, (c.toList.drop (m.off + o)).take k, f1, ?_, ?_, ?_, ?_⟩
        · simp; omega
        · simp; omega
        · intro j v hj
          rw [cell_of_block f2, ← hj]
          have hjk : j < k := by
            have := (List.getElem?_eq_some_iff.1 hj).1
            simp at this; omega
          rw [List.getElem?_take, if_pos hjk, List.getElem?_drop]
          simp [Array.getElem?_toList]
        · refine ⟨by simp; omega, fun i a a' h1 h2 => ?_⟩
          simp only [List.getElem?_toArray] at h1 h2
          have hik : i < k := by
            have := (List.getElem?_eq_some_iff.1 h1).1
            simp at this; omega
          rw [List.getElem?_take, if_pos hik, List.getElem?_drop] at h1 h2
          obtain ⟨a'', q1, q2⟩ := g3 (o + i) a h1
          rw [Array.getElem?_toList, show m.off + o + i = m.off + (o + i) by omega, q1] at h2
          cases h2; exact q2
      | _ => exact f3.elim
    · cases e
  · cases e

def loadE (P : Program) (t : TypeId) (v : Value) (h : Heap) : Option Value :=
  match v with
  | .pointer (some ⟨b, o, none⟩) =>
    match isAggE P t, P.info? t with
    | some true, some i => (rowE h b o i.size).map fun xs => .agg xs.toArray
    | some false, some _ => match h.get b with
      | some (.cells cs _ _) => cs[o]?
      | _ => none
    | _, _ => none
  | _ => none

theorem loadE_sound {P : Program} {μ : Mu} {h : Heap} {n : Nat} {w : World} (r : Rel P μ h n w) {t : TypeId} {v v' x : Value} (hv : VRel μ v v') (e : loadE P t v h = some x) :
    ∃ x', (Instr.loadAt t v').run P w = .ok x' w ∧ VRel μ x x' := by
  unfold loadE at e
  split at e
  · rename_i b o
    cases hv with
    | ptr o hm =>
      rename_i m
      split at e
      · rename_i i e1 e2
        simp only [Option.map_eq_some_iff] at e
        obtain ⟨xs, e3, rfl⟩ := e
        obtain ⟨m', xs', f1, f2, _, f4, f5⟩ := rowE_sound r e3
        rw [hm] at f1; cases f1
        refine ⟨.agg xs'.toArray, ?_, f5.agg⟩
        simp only [Instr.loadAt, Instr.sureAddr, loadVar, Sem.run_bind, Sem.run_pure, Result.andThen_ok, run_isAgg_of e1, if_true, run_sizeOf_of e2]
        rw [← f2, run_loadCells xs' f4]
        rfl
      · rename_i i e1 e2
        split at e
        · rename_i cs own k hb
          obtain ⟨m', y, f1, f2, f3⟩ := r.obj b _ hb
          rw [hm] at f1; cases f1
          cases y with
          | cells c el fr =>
            obtain ⟨_, _, g3, _⟩ := f3
            obtain ⟨x', q1, q2⟩ := g3 o x e
            refine ⟨x', ?_, q2⟩
            simp only [Instr.loadAt, Instr.sureAddr, loadVar, Sem.run_bind, Sem.run_pure, Result.andThen_ok, run_isAgg_of e1, Bool.false_eq_true, if_false]
            exact run_load_cell (by rw [cell_of_block f2]; exact q1) _
          | _ => exact f3.elim
        · cases e
      · cases e
  · cases e

/-! Stores. -/
def setAll : List Value → Nat → List Value → List Value
  | cs, _, [] => cs
  | cs, o, x :: xs => setAll (cs.set o x) (o + 1) xs

theorem length_setAll : ∀ (xs cs : List Value) (o : Nat), (setAll cs o xs).length = cs.length := by
  intro xs
  induction xs with
  | nil => intros; rfl
  | cons x xs ih => intro cs o; simp [setAll, ih]

theorem modify_of {heap : Array Obj} {i : Nat} {x : Obj} (h : heap[i]? = some x) (f : Obj → Obj) : heap.modify i f = heap.setIfInBounds i (f x) := by
  obtain ⟨hlt, hx⟩ := Array.getElem?_eq_some_iff.1 h
  apply Array.ext
  · simp
  · intro j h1 h2
    rw [Array.getElem_modify, Array.getElem_setIfInBounds]
    · by_cases e : i = j
      · subst e; simp [hx]
      · simp [e]
    · simpa using h1

theorem run_storeCells_one {P : Program} {μ : Mu} {h : Heap} {n : Nat} {w : World} (r : Rel P μ h n w) {b o : Nat} {k : CI} {cs : List Value} {m : Im} {x x' : Value}
    (hb : h.get b = some (.cells cs true k)) (hm : μ b = some m) (hx : VRel μ x x') (h1 : x.oneCell' = true) (ho : o < cs.length) :
    ∃ w', (store ⟨m.blk, m.off + o, none⟩ x').run P w = .ok () w' ∧ Rel P μ (h.set b (.cells (cs.set o x) true k)) n w' ∧ Grow μ h w μ (h.set b (.cells (cs.set o x) true k)) w' := by
  obtain ⟨m', y, f1, f2, f3⟩ := r.obj b _ hb
  rw [hm] at f1; cases f1
  cases y with
  | cells c el fr =>
    obtain ⟨g1, g2, g3, g4, g5, g6, g7⟩ := f3
    have hcell : w.cell? ⟨m.blk, m.off + o, none⟩ = some (c[m.off + o]'(by omega)) := by
      rw [cell_of_block f2, Array.getElem?_eq_getElem]
    have hfro : w.frozen? ⟨m.blk, m.off + o, none⟩ = false := by
      have := g4 rfl (m.off + o) (by omega) (by omega)
      simp only [World.frozen?, f2]
      simpa [Bool.and_eq_true, decide_eq_true_eq] using this
    refine ⟨w.setCell ⟨m.blk, m.off + o, none⟩ x', ?_, ?_⟩
    · rw [run_store P w _ _ _ (by rw [hx.oneCell]; exact h1), hcell]
      simp [hfro]
    · refine r.turn (o' := .cells (cs.set o x) true k) (.cells (c.setIfInBounds (m.off + o) x') el fr) hb rfl hm ?_ ?_ rfl rfl rfl
      · refine ⟨by simp [g1], by simpa using g2, ?_, ?_, g5, g6, fun e => by simpa using g7 e⟩
        · intro i v hi
          rw [List.getElem?_set] at hi
          by_cases e : o = i
          · subst e
            simp only [if_true, ho] at hi
            cases hi
            exact ⟨x', by rw [Array.getElem?_setIfInBounds_self_of_lt (by omega)], hx⟩
          · rw [if_neg e] at hi
            obtain ⟨v', q1, q2⟩ := g3 i v hi
            exact ⟨v', by rw [Array.getElem?_setIfInBounds_ne (by omega)]; exact q1, q2⟩
        · intro _ i h1 h2
          exact g4 rfl i h1 (by simpa using h2)
      · simp only [World.setCell]
        rw [modify_of f2]
        simp
  | _ => exact f3.elim

theorem run_storeCells {P : Program} {μ : Mu} {n : Nat} {b : Nat} {k : CI} {m : Im} (hm : μ b = some m) : ∀ (xs xs' : List Value) (h : Heap) (w : World) (cs : List Value) (o i : Nat),
    Rel P μ h n w → h.get b = some (.cells cs true k) → ARel μ xs.toArray xs'.toArray → (xs.all fun x => x.oneCell') = true → o + i + xs.length ≤ cs.length →
    ∃ w', (storeCells ⟨m.blk, m.off + o, none⟩ xs' i).run P w = .ok () w' ∧ ∃ h', (∀ j, h'.get j = if j = b then some (.cells (setAll cs (o + i) xs) true k) else h.get j) ∧ Rel P μ h' n w' ∧ Grow μ h w μ h' w' := by
  intro xs
  induction xs with
  | nil =>
    intro xs' h w cs o i r hb ha _ _
    have : xs' = [] := by have := ha.1; simp at this; exact List.eq_nil_of_length_eq_zero this.symm
    subst this
    refine ⟨w, rfl, h, fun j => ?_, r, .refl _ _ _⟩
    by_cases e : j = b
    · subst e; simp [setAll, hb]
    · simp [e]
  | cons x xs ih =>
    intro xs' h w cs o i r hb ha h1 hle
    cases xs' with
    | nil => have := ha.1; simp at this
    | cons x' xs' =>
      simp only [List.all_cons, Bool.and_eq_true] at h1
      simp only [List.length_cons] at hle
      have hx : VRel μ x x' := ha.2 0 x x' (by simp) (by simp)
      have ha' : ARel μ xs.toArray xs'.toArray := ⟨by have := ha.1; simpa using this, fun j a a' q1 q2 => ha.2 (j + 1) a a' (by simpa using q1) (by simpa using q2)⟩
      obtain ⟨w1, e1, r1, g1⟩ := run_storeCells_one r (o := o + i) hb hm hx h1.1 (by omega)
      obtain ⟨w2, e2, h2, q2, r2, g2⟩ := ih xs' _ w1 (cs.set (o + i) x) o (i + 1) r1 (Trie.get_set_same _ _ _) ha' h1.2 (by simp; omega)
      refine ⟨w2, ?_, h2, ?_, r2, g1.trans g2⟩
      · simp only [storeCells, Sem.run_bind, Addr.add_plain]
        rw [show m.off + o + i = m.off + (o + i) by omega, e1]
        exact e2
      · intro j
        rw [q2 j, Trie.get_set]
        by_cases e : j = b
        · simp [e, setAll, show o + (i + 1) = o + i + 1 by omega]
        · simp [e]

def storeE (P : Program) (t : TypeId) (v x : Value) (h : Heap) : Option Heap :=
  match v with
  | .pointer (some ⟨b, o, none⟩) =>
    match h.get b, P.info? t with
    | some (.cells cs true k), some i =>
      if (x.cells.toList.length == i.size && x.cells.toList.all (fun x => x.oneCell') && decide (o + i.size ≤ cs.length)) = true then some (h.set b (.cells (setAll cs o x.cells.toList) true k)) else none
    | _, _ => none
  | _ => none

theorem Rel.ext {P : Program} {μ : Mu} {h h' : Heap} {n : Nat} {w : World} (e : ∀ j, h'.get j = h.get j) (r : Rel P μ h n w) : Rel P μ h' n w :=
  r.sub fun b o hb => by rw [← e]; exact hb
theorem Grow.ext {μ μ' : Mu} {h h1 h2 : Heap} {w w' : World} (e : ∀ j, h2.get j = h1.get j) (g : Grow μ h w μ' h1 w') : Grow μ h w μ' h2 w' :=
  g.sub fun b o hb => by rw [← e]; exact hb

theorem storeE_sound {P : Program} {μ : Mu} {h h' : Heap} {n : Nat} {w : World} (r : Rel P μ h n w) {t : TypeId} {v v' x x' : Value} (hv : VRel μ v v') (hx : VRel μ x x') (e : storeE P t v x h = some h') :
    ∃ w', (Instr.storeAt t v' x').run P w = .ok () w' ∧ Rel P μ h' n w' ∧ Grow μ h w μ h' w' := by
  unfold storeE at e
  split at e
  · rename_i b o
    cases hv with
    | ptr o hm =>
      rename_i m
      split at e
      · rename_i cs k i e1 e2
        split at e
        · rename_i hc
          cases e
          simp only [Bool.and_eq_true, beq_iff_eq, decide_eq_true_eq] at hc
          obtain ⟨⟨c1, c2⟩, c3⟩ := hc
          have hcells := hx.cells
          have ha : ARel μ x.cells.toList.toArray x'.cells.toList.toArray := by simpa using hcells
          obtain ⟨w', q1, h2, q2, r2, g2⟩ := run_storeCells hm x.cells.toList x'.cells.toList h w cs o 0 r e1 ha c2 (by omega)
          have hext : ∀ j, (h.set b (.cells (setAll cs o x.cells.toList) true k)).get j = h2.get j := by
            intro j; rw [q2 j, Trie.get_set]; rfl
          refine ⟨w', ?_, r2.ext hext, g2.ext hext⟩
          have hs : x'.cells.size = i.size := by rw [← hcells.1, ← c1]; simp
          simp only [Instr.storeAt, Instr.sureAddr, storeVar, Sem.run_bind, Sem.run_pure, Result.andThen_ok, run_sizeOf_of e2, hs, ne_eq, not_true_eq_false, if_false]
          exact q1
        · cases e
      · cases e
  · cases e
end Go.Abs
