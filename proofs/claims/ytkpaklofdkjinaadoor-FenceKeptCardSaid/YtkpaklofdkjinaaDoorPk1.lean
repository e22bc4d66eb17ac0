/- texts of the claim, part 1: AbsA AbsB. -/
import Derived.Calls
import Derived.Defers
import Derived.Recover
import Derived.Orders
import Derived.Laws.Sem
import Derived.Laws.Strings
import Derived.Laws.BytesString
set_option linter.unusedVariables false
set_option linter.unusedSimpArgs false
set_option linter.unusedSectionVars false
/- Abstract states over the model: tries, values up to renaming of blocks, the relation between an abstract heap and a world. -/
namespace Go.Abs
open Go
/-! Tries: maps from numbers, with laws that need no side condition, and that the kernel can run. -/
inductive Trie (α : Type) where
  | nil
  | node (v : Option α) (l r : Trie α)
namespace Trie
variable {α : Type}
def get : Trie α → Nat → Option α
  | .nil, _ => none
  | .node v l r, i => if i = 0 then v else if i % 2 = 1 then l.get ((i - 1) / 2) else r.get ((i - 1) / 2)
def setF (x : Option α) : Nat → Trie α → Nat → Trie α
  | 0, t, _ => t
  | f + 1, .nil, i => if i = 0 then .node x .nil .nil else if i % 2 = 1 then .node none (setF x f .nil ((i - 1) / 2)) .nil else .node none .nil (setF x f .nil ((i - 1) / 2))
  | f + 1, .node v l r, i => if i = 0 then .node x l r else if i % 2 = 1 then .node v (setF x f l ((i - 1) / 2)) r else .node v l (setF x f r ((i - 1) / 2))
theorem get_nil (i : Nat) : (Trie.nil : Trie α).get i = none := rfl
theorem get_setF (x : Option α) : ∀ (f : Nat) (t : Trie α) (i j : Nat), i < f → (setF x f t i).get j = if j = i then x else t.get j := by
  intro f
  induction f with
  | zero => intro t i j h; omega
  | succ f ih =>
    intro t i j h
    cases t with
    | nil =>
      simp only [setF]
      by_cases hi : i = 0
      · subst hi; simp only [if_true, get]
        by_cases hj : j = 0
        · simp [hj]
        · simp [hj]
      · have hlt : (i - 1) / 2 < f := by omega
        by_cases h2 : i % 2 = 1
        · simp only [hi, h2, if_true, if_false, get]
          by_cases hj : j = 0
          · subst hj; simp; omega
          · by_cases hj2 : j % 2 = 1
            · simp only [hj, hj2, if_true, if_false]; rw [ih _ _ _ hlt, get_nil]
              by_cases e : j = i
              · subst e; simp
              · rw [if_neg (by omega), if_neg e]
            · simp only [hj, hj2, if_false]; rw [if_neg (by omega)]
        · simp only [hi, h2, if_false, get]
          by_cases hj : j = 0
          · subst hj; simp; omega
          · by_cases hj2 : j % 2 = 1
            · simp only [hj, hj2, if_true, if_false]; rw [if_neg (by omega)]
            · simp only [hj, hj2, if_false]; rw [ih _ _ _ hlt, get_nil]
              by_cases e : j = i
              · subst e; simp
              · rw [if_neg (by omega), if_neg e]
    | node v l r =>
      simp only [setF]
      by_cases hi : i = 0
      · subst hi; simp only [if_true, get]
        by_cases hj : j = 0
        · simp [hj]
        · simp [hj]
      · have hlt : (i - 1) / 2 < f := by omega
        by_cases h2 : i % 2 = 1
        · simp only [hi, h2, if_true, if_false, get]
          by_cases hj : j = 0
          · subst hj; simp; omega
          · by_cases hj2 : j % 2 = 1
            · simp only [hj, hj2, if_true, if_false]; rw [ih _ _ _ hlt]
              by_cases e : j = i
              · subst e; simp
              · rw [if_neg (by omega), if_neg e]
            · simp only [hj, hj2, if_false]; rw [if_neg (by omega)]
        · simp only [hi, h2, if_false, get]
          by_cases hj : j = 0
          · subst hj; simp; omega
          · by_cases hj2 : j % 2 = 1
            · simp only [hj, hj2, if_true, if_false]; rw [if_neg (by omega)]
            · simp only [hj, hj2, if_false]; rw [ih _ _ _ hlt]
              by_cases e : j = i
              · subst e; simp
              · rw [if_neg (by omega), if_neg e]
def put (t : Trie α) (i : Nat) (x : Option α) : Trie α := setF x (i + 1) t i
def set (t : Trie α) (i : Nat) (x : α) : Trie α := t.put i (some x)
def del (t : Trie α) (i : Nat) : Trie α := t.put i none
theorem get_put (t : Trie α) (i j : Nat) (x : Option α) : (t.put i x).get j = if j = i then x else t.get j := get_setF x _ t i j (by omega)
theorem get_set (t : Trie α) (i j : Nat) (x : α) : (t.set i x).get j = if j = i then some x else t.get j := get_put t i j _
theorem get_del (t : Trie α) (i j : Nat) : (t.del i).get j = if j = i then none else t.get j := get_put t i j _
theorem get_set_same (t : Trie α) (i : Nat) (x : α) : (t.set i x).get i = some x := by rw [get_set, if_pos rfl]
theorem get_set_ne (t : Trie α) {i j : Nat} (x : α) (h : j ≠ i) : (t.set i x).get j = t.get j := by rw [get_set, if_neg h]
end Trie
/-! Values up to renaming. -/
/-- Where an abstract block lies: the block, the first cell, how many cells the block has, the size of an element that is appended (0: none is). -/
structure Im where
  blk : Nat
  off : Nat
  sz : Nat
  k : Nat
abbrev Mu := Nat → Option Im
/-- The capacity of a slice of which nothing is known. -/
def U : Nat := 2 ^ 64
inductive VRel (μ : Mu) : Value → Value → Prop
  | bool (b : Bool) : VRel μ (.bool b) (.bool b)
  | int (k : IntKind) (n : Int) : VRel μ (.int k n) (.int k n)
  | string (s : ByteArray) : VRel μ (.string s) (.string s)
  | pnil : VRel μ (.pointer none) (.pointer none)
  | ptr {b : Nat} {m : Im} (o : Nat) (h : μ b = some m) : VRel μ (.pointer (some ⟨b, o, none⟩)) (.pointer (some ⟨m.blk, m.off + o, none⟩))
  | snil : VRel μ (.slice none 0 0) (.slice none 0 0)
  | slice {b : Nat} {m : Im} (o len cap cap' : Nat) (h : μ b = some m)
      (hc : (cap < U ∧ cap = cap') ∨ (cap = U ∧ len ≤ cap' ∧ m.off + o + cap' * m.k ≤ m.sz)) :
      VRel μ (.slice (some ⟨b, o, none⟩) len cap) (.slice (some ⟨m.blk, m.off + o, none⟩) len cap')
  | szero (b o : Nat) (a' : Addr) : VRel μ (.slice (some ⟨b, o, none⟩) 0 0) (.slice (some a') 0 0)
  | mnil : VRel μ (.map none) (.map none)
  | map {b : Nat} {m : Im} (h : μ b = some m) : VRel μ (.map (some b)) (.map (some m.blk))
  | nilFunc : VRel μ .nilFunc .nilFunc
  | func (fn : Fn) {f c f' c' : Array Value} (hf : f.size = f'.size) (hc : c.size = c'.size)
      (hf' : ∀ (i : Nat) (x y : Value), f[i]? = some x → f'[i]? = some y → VRel μ x y)
      (hc' : ∀ (i : Nat) (x y : Value), c[i]? = some x → c'[i]? = some y → VRel μ x y) : VRel μ (.func fn f c) (.func fn f' c')
  | nilIface : VRel μ .nilIface .nilIface
  | iface (t : TypeId) {v v' : Value} (h : VRel μ v v') : VRel μ (.iface t v) (.iface t v')
  | agg {c c' : Array Value} (hc : c.size = c'.size) (hc' : ∀ (i : Nat) (x y : Value), c[i]? = some x → c'[i]? = some y → VRel μ x y) : VRel μ (.agg c) (.agg c')
  | tuple {c c' : Array Value} (hc : c.size = c'.size) (hc' : ∀ (i : Nat) (x y : Value), c[i]? = some x → c'[i]? = some y → VRel μ x y) : VRel μ (.tuple c) (.tuple c')
/-- Arrays of values, place by place. -/
def ARel (μ : Mu) (c c' : Array Value) : Prop := c.size = c'.size ∧ ∀ (i : Nat) (x y : Value), c[i]? = some x → c'[i]? = some y → VRel μ x y
/-- One renaming goes on from another one. -/
def Mu.le (μ μ' : Mu) : Prop := ∀ b m, μ b = some m → μ' b = some m
theorem Mu.le_refl (μ : Mu) : μ.le μ := fun _ _ h => h
theorem Mu.le_trans {a b c : Mu} (h : a.le b) (k : b.le c) : a.le c := fun x m e => k x m (h x m e)
theorem VRel.mono {μ μ' : Mu} (h : μ.le μ') {x y : Value} (r : VRel μ x y) : VRel μ' x y := by
  induction r with
  | bool b => exact .bool b
  | int k n => exact .int k n
  | string s => exact .string s
  | pnil => exact .pnil
  | ptr o e => exact .ptr o (h _ _ e)
  | snil => exact .snil
  | slice o len cap cap' e hc => exact .slice o len cap cap' (h _ _ e) hc
  | szero b o a' => exact .szero b o a'
  | mnil => exact .mnil
  | map e => exact .map (h _ _ e)
  | nilFunc => exact .nilFunc
  | func fn hf hc _ _ ih1 ih2 => exact .func fn hf hc ih1 ih2
  | nilIface => exact .nilIface
  | iface t _ ih => exact .iface t ih
  | agg hc _ ih => exact .agg hc ih
  | tuple hc _ ih => exact .tuple hc ih
theorem ARel.mono {μ μ' : Mu} (h : μ.le μ') {x y : Array Value} (r : ARel μ x y) : ARel μ' x y := ⟨r.1, fun i a b ha hb => (r.2 i a b ha hb).mono h⟩
theorem ARel.agg {μ : Mu} {x y : Array Value} (r : ARel μ x y) : VRel μ (.agg x) (.agg y) := .agg r.1 r.2
theorem ARel.tuple {μ : Mu} {x y : Array Value} (r : ARel μ x y) : VRel μ (.tuple x) (.tuple y) := .tuple r.1 r.2
theorem ARel.get {μ : Mu} {x y : Array Value} (r : ARel μ x y) {i : Nat} {a : Value} (h : x[i]? = some a) : ∃ b, y[i]? = some b ∧ VRel μ a b := by
  obtain ⟨hlt, _⟩ := Array.getElem?_eq_some_iff.1 h
  have hy : i < y.size := r.1 ▸ hlt
  exact ⟨y[i], Array.getElem?_eq_getElem hy, r.2 i a _ h (Array.getElem?_eq_getElem hy)⟩
/-- Without an address: as it stands on both sides. -/
def flatN : Nat → Value → Bool
  | _, .bool _ | _, .int _ _ | _, .string _ | _, .pointer none | _, .map none | _, .nilFunc | _, .nilIface => true
  | _, .slice none l c => l == 0 && c == 0
  | n + 1, .iface _ v => flatN n v
  | n + 1, .agg c => c.toList.all (flatN n)
  | n + 1, .tuple c => c.toList.all (flatN n)
  | _, .func _ f c => f.toList.isEmpty && c.toList.isEmpty
  | _, _ => false
def flat (v : Value) : Bool := flatN 64 v
theorem all_getElem? {p : Value → Bool} {c : Array Value} (h : c.toList.all p = true) {i : Nat} {x : Value} (hx : c[i]? = some x) : p x = true := by
  rw [List.all_eq_true] at h
  exact h x (by rw [Array.mem_toList_iff]; exact Array.mem_of_getElem? hx)
theorem VRel.flatN_self {μ : Mu} : ∀ (n : Nat) (v : Value), flatN n v = true → VRel μ v v := by
  intro n
  induction n with
  | zero =>
    intro v h
    cases v with
    | bool b => exact .bool b
    | int k n => exact .int k n
      | string s => exact .string s
    | pointer a => cases a with
      | none => exact .pnil
      | some a => simp [flatN] at h
    | slice a l c => cases a with
      | none => simp [flatN] at h; obtain ⟨rfl, rfl⟩ := h; exact .snil
      | some a => simp [flatN] at h
    | map r => cases r with
      | none => exact .mnil
      | some a => simp [flatN] at h
    | nilFunc => exact .nilFunc
    | nilIface => exact .nilIface
    | func fn f c =>
      simp [flatN] at h
      obtain ⟨rfl, rfl⟩ := h
      exact .func fn rfl rfl (by simp) (by simp)
    | _ => simp [flatN] at h
  | succ n ih =>
    intro v h
    cases v with
    | bool b => exact .bool b
    | int k n => exact .int k n
      | string s => exact .string s
    | pointer a => cases a with
      | none => exact .pnil
      | some a => simp [flatN] at h
    | slice a l c => cases a with
      | none => simp [flatN] at h; obtain ⟨rfl, rfl⟩ := h; exact .snil
      | some a => simp [flatN] at h
    | map r => cases r with
      | none => exact .mnil
      | some a => simp [flatN] at h
    | nilFunc => exact .nilFunc
    | nilIface => exact .nilIface
    | func fn f c =>
      simp [flatN] at h
      obtain ⟨rfl, rfl⟩ := h
      exact .func fn rfl rfl (by simp) (by simp)
    | iface t v => exact .iface t (ih v (by simpa [flatN] using h))
    | agg c =>
      refine .agg rfl fun i x y hx hy => ?_
      have e : x = y := by simpa [hx] using hy
      subst e
      exact ih x (all_getElem? (by simpa only [flatN] using h) hx)
    | tuple c =>
      refine .tuple rfl fun i x y hx hy => ?_
      have e : x = y := by simpa [hx] using hy
      subst e
      exact ih x (all_getElem? (by simpa only [flatN] using h) hx)
    | _ => simp [flatN] at h
theorem VRel.flat_self {μ : Mu} {v : Value} (h : flat v = true) : VRel μ v v := VRel.flatN_self 64 v h
theorem arr_eq {c c' : Array Value} (hs : c.size = c'.size) (h : ∀ (i : Nat) (x y : Value), c[i]? = some x → c'[i]? = some y → x = y) : c = c' := by
  apply Array.ext hs
  intro i h1 h2
  exact h i _ _ (Array.getElem?_eq_getElem h1) (Array.getElem?_eq_getElem h2)
theorem VRel.flatN_eq {μ : Mu} {v v' : Value} (r : VRel μ v v') : ∀ n : Nat, flatN n v = true → v = v' := by
  induction r with
  | bool | int | string | pnil | snil | mnil | nilFunc | nilIface => intros; rfl
  | ptr o e => intro n h; cases n <;> simp [flatN] at h
  | slice o len cap cap' e hc => intro n h; cases n <;> simp [flatN] at h
  | szero b o a' => intro n h; cases n <;> simp [flatN] at h
  | map e => intro n h; cases n <;> simp [flatN] at h
  | @func fn f c f' c' hf hc _ _ ih1 ih2 =>
    intro n h
    have h' : f = #[] ∧ c = #[] := by cases n <;> simpa [flatN] using h
    obtain ⟨rfl, rfl⟩ := h'
    have e1 := Array.eq_empty_of_size_eq_zero hf.symm
    have e2 := Array.eq_empty_of_size_eq_zero hc.symm
    rw [e1, e2]
  | iface t _ ih =>
    intro n h
    cases n with
    | zero => simp [flatN] at h
    | succ n => rw [ih n (by simpa [flatN] using h)]
  | agg hc _ ih =>
    intro n h
    cases n with
    | zero => simp [flatN] at h
    | succ n =>
      have h' : _ = true := h
      simp only [flatN] at h'
      congr 1
      exact arr_eq hc fun i x y hx hy => ih i x y hx hy n (all_getElem? h' hx)
  | tuple hc _ ih =>
    intro n h
    cases n with
    | zero => simp [flatN] at h
    | succ n =>
      have h' : _ = true := h
      simp only [flatN] at h'
      congr 1
      exact arr_eq hc fun i x y hx hy => ih i x y hx hy n (all_getElem? h' hx)
theorem VRel.flat_eq {μ : Mu} {v v' : Value} (r : VRel μ v v') (h : flat v = true) : v' = v := (r.flatN_eq 64 h).symm
end Go.Abs
/- The relation between an abstract heap and a world, how it grows, and the abstract calls and codes with their rules. -/
namespace Go.Abs
open Go
/-- Of a row of cells: the type of its elements, the size of an element that is appended (0: none is), whether the block holds just these cells. -/
structure CI where
  e : TypeId
  k : Nat := 0
  whole : Bool := true
  deriving Inhabited
inductive AObj where
  | cells (cs : List Value) (own : Bool) (ci : CI)
  | map (es : List MapEntry) (clock : Nat)
  | siter (s : ByteArray) (pos : Nat)
  | miter (m : Option Nat) (since : Nat) (seen : List Nat) (last : Nat)
  deriving Inhabited
def AObj.excl : AObj → Bool
  | .cells _ own _ => own
  | _ => true
abbrev Heap := Trie AObj
/-- An abstract object and a block. -/
def ORel (μ : Mu) (o : AObj) (x : Obj) (m : Im) : Prop :=
  match o, x with
  | .cells cs own ci, .cells c el fr =>
    m.sz = c.size ∧ m.off + cs.length ≤ c.size ∧ (∀ (i : Nat) (v : Value), cs[i]? = some v → ∃ v' : Value, c[m.off + i]? = some v' ∧ VRel μ v v') ∧
      (own = true → ∀ i, m.off ≤ i → i < c.size → ¬ (fr.1 ≤ i ∧ i < fr.2)) ∧ m.k = ci.k ∧ el = ci.e ∧ (ci.whole = true → m.off = 0 ∧ c.size = cs.length)
  | .map es clock, .map es' clock' =>
    m.off = 0 ∧ es.length = es'.size ∧ (∀ (i : Nat) (e : MapEntry), es[i]? = some e → ∃ e' : MapEntry, es'[i]? = some e' ∧ VRel μ e.key e'.key ∧ VRel μ e.val e'.val ∧ e'.born = e.born) ∧ clock' = clock
  | .siter s pos, .stringIter s' pos' => m.off = 0 ∧ s = s' ∧ pos = pos'
  | .miter none _ _ _, .mapIter none _ _ _ => m.off = 0
  | .miter (some b) since seen last, .mapIter (some b') since' seen' last' => m.off = 0 ∧ since' = since ∧ seen'.toList = seen ∧ last' = last ∧ ∃ mm, μ b = some mm ∧ mm.blk = b'
  | _, _ => False
theorem ORel.mono {μ μ' : Mu} (h : μ.le μ') {o : AObj} {x : Obj} {m : Im} (r : ORel μ o x m) : ORel μ' o x m := by
  unfold ORel at *
  split at r
  · obtain ⟨h1, h2, h3, h4⟩ := r
    exact ⟨h1, h2, fun i v hv => let ⟨v', a, b⟩ := h3 i v hv; ⟨v', a, b.mono h⟩, h4⟩
  · obtain ⟨h1, h2, h3, h4⟩ := r
    exact ⟨h1, h2, fun i v hv => let ⟨v', a, b, c, d⟩ := h3 i v hv; ⟨v', a, b.mono h, c.mono h, d⟩, h4⟩
  · exact r
  · exact r
  · obtain ⟨h1, h2, h3, h4, mm, h5, h6⟩ := r
    exact ⟨h1, h2, h3, h4, mm, h _ _ h5, h6⟩
  · exact r.elim
structure Rel (P : Program) (μ : Mu) (h : Heap) (n : Nat) (w : World) : Prop where
  obj : ∀ b o, h.get b = some o → ∃ m x, μ b = some m ∧ w.heap[m.blk]? = some x ∧ ORel μ o x m
  sep : ∀ b b' o o' m m', h.get b = some o → o.excl = true → b ≠ b' → h.get b' = some o' → μ b = some m → μ b' = some m' → m.blk ≠ m'.blk
  bound : ∀ b, n ≤ b → μ b = none
  glob : ∀ g, g < P.globals.size → ∃ m, μ g = some m ∧ m.blk = g ∧ m.off = 0
/-- How a world may turn: only the blocks of what is owned, and new ones. -/
structure Grow (μ : Mu) (h : Heap) (w : World) (μ' : Mu) (h' : Heap) (w' : World) : Prop where
  le : μ.le μ'
  size : w.heap.size ≤ w'.heap.size
  os : w'.os = w.os
  tape : w'.tape = w.tape
  output : w'.output = w.output
  kept : ∀ c, c < w.heap.size → (∀ b o m, h.get b = some o → o.excl = true → μ b = some m → m.blk ≠ c) → w'.heap[c]? = w.heap[c]?
  orig : ∀ b' o' m', h'.get b' = some o' → o'.excl = true → μ' b' = some m' → m'.blk < w.heap.size → ∃ b o m, h.get b = some o ∧ o.excl = true ∧ μ b = some m ∧ m.blk = m'.blk
theorem Grow.refl (μ : Mu) (h : Heap) (w : World) : Grow μ h w μ h w :=
  ⟨μ.le_refl, Nat.le_refl _, rfl, rfl, rfl, fun _ _ _ => rfl, fun b' o' m' a b c _ => ⟨b', o', m', a, b, c, rfl⟩⟩
theorem Grow.trans {μ μ1 μ2 : Mu} {h h1 h2 : Heap} {w w1 w2 : World} (a : Grow μ h w μ1 h1 w1) (b : Grow μ1 h1 w1 μ2 h2 w2) : Grow μ h w μ2 h2 w2 := by
  refine ⟨Mu.le_trans a.le b.le, Nat.le_trans a.size b.size, b.os.trans a.os, b.tape.trans a.tape, b.output.trans a.output, ?_, ?_⟩
  · intro c hc hk
    rw [b.kept c (Nat.lt_of_lt_of_le hc a.size) ?_, a.kept c hc hk]
    intro b' o' m' h1' e1 e2 e3
    obtain ⟨b0, o0, m0, g1, g2, g3, g4⟩ := a.orig b' o' m' h1' e1 e2 (e3 ▸ hc)
    exact hk b0 o0 m0 g1 g2 g3 (g4.trans e3)
  · intro b' o' m' g1 g2 g3 g4
    obtain ⟨b1, o1, m1, e1, e2, e3, e4⟩ := b.orig b' o' m' g1 g2 g3 (Nat.lt_of_lt_of_le g4 a.size)
    obtain ⟨b0, o0, m0, f1, f2, f3, f4⟩ := a.orig b1 o1 m1 e1 e2 e3 (e4 ▸ g4)
    exact ⟨b0, o0, m0, f1, f2, f3, f4.trans e4⟩
/-- A part of a heap. -/
def Heap.sub (h h' : Heap) : Prop := ∀ b o, h.get b = some o → h'.get b = some o
theorem Heap.sub_refl (h : Heap) : h.sub h := fun _ _ e => e
theorem Heap.sub_trans {a b c : Heap} (x : a.sub b) (y : b.sub c) : a.sub c := fun i o e => y i o (x i o e)
theorem Rel.sub {P : Program} {μ : Mu} {h h' : Heap} {n : Nat} {w : World} (r : Rel P μ h n w) (s : h'.sub h) : Rel P μ h' n w :=
  ⟨fun b o e => r.obj b o (s b o e), fun b b' o o' m m' e1 e2 e3 e4 => r.sep b b' o o' m m' (s _ _ e1) e2 e3 (s _ _ e4), r.bound, r.glob⟩
theorem Grow.sub {μ μ' : Mu} {h h' h'' : Heap} {w w' : World} (g : Grow μ h w μ' h' w') (s : h''.sub h') : Grow μ h w μ' h'' w' :=
  ⟨g.le, g.size, g.os, g.tape, g.output, g.kept, fun b' o' m' e1 => g.orig b' o' m' (s _ _ e1)⟩
theorem Rel.later {P : Program} {μ : Mu} {h : Heap} {n n' : Nat} {w : World} (r : Rel P μ h n w) (hn : n ≤ n') : Rel P μ h n' w :=
  ⟨r.obj, r.sep, fun b hb => r.bound b (Nat.le_trans hn hb), r.glob⟩
theorem Rel.below {P : Program} {μ : Mu} {h : Heap} {n : Nat} {w : World} (r : Rel P μ h n w) {b : Nat} (hb : n ≤ b) : h.get b = none := by
  cases e : h.get b with
  | none => rfl
  | some o =>
    obtain ⟨m, x, hm, _⟩ := r.obj b o e
    rw [r.bound b hb] at hm
    cases hm
/-! Frames. -/
structure AAct where
  t : Trie Value
  size : Nat
  defers : List Deferred
def AAct.get (a : AAct) (i : Nat) : Value := (a.t.get i).getD undef
def AAct.put (a : AAct) (dst : Option Tmp) (v : Value) : AAct :=
  match dst with
  | some d => if d < a.size then { a with t := a.t.set d v } else a
  | none => a
def AAct.eval (a : AAct) : Operand → Value
  | .tmp t => a.get t
  | .const v => v
  | .global g => .pointer (some ⟨g, 0, none⟩)
  | .func f => .func (.func f) #[] #[]
inductive TRel (μ : Mu) : Target → Target → Prop
  | fn (f : Fn) {c c' : Array Value} (h : ARel μ c c') : TRel μ (.fn f c) (.fn f c')
  | nil : TRel μ .nil .nil
  | builtin (b : Builtin) (ts : Array TypeId) (t : TypeId) (cs : Array Bool) : TRel μ (.builtin b ts t cs) (.builtin b ts t cs)
structure DRel (μ : Mu) (d d' : Deferred) : Prop where
  target : TRel μ d.target d'.target
  args : ARel μ d.args d'.args
inductive DsRel (μ : Mu) : List Deferred → List Deferred → Prop
  | nil : DsRel μ [] []
  | cons {d d' : Deferred} {l l' : List Deferred} (h : DRel μ d d') (t : DsRel μ l l') : DsRel μ (d :: l) (d' :: l')
theorem TRel.mono {μ μ' : Mu} (h : μ.le μ') {x y : Target} (r : TRel μ x y) : TRel μ' x y := by
  cases r with
  | fn f hc => exact .fn f (hc.mono h)
  | nil => exact .nil
  | builtin => exact .builtin ..
theorem DRel.mono {μ μ' : Mu} (h : μ.le μ') {x y : Deferred} (r : DRel μ x y) : DRel μ' x y := ⟨r.target.mono h, r.args.mono h⟩
theorem DsRel.mono {μ μ' : Mu} (h : μ.le μ') {x y : List Deferred} (r : DsRel μ x y) : DsRel μ' x y := by
  induction r with
  | nil => exact .nil
  | cons hd _ ih => exact .cons (hd.mono h) ih
structure FRel (μ : Mu) (a : AAct) (c : Act) : Prop where
  size : c.tmps.size = a.size
  get : ∀ i, VRel μ (a.get i) (c.tmps.getD i undef)
  defers : DsRel μ a.defers c.defers
theorem FRel.mono {μ μ' : Mu} (h : μ.le μ') {a : AAct} {c : Act} (r : FRel μ a c) : FRel μ' a c :=
  ⟨r.size, fun i => (r.get i).mono h, r.defers.mono h⟩
theorem undef_rel (μ : Mu) : VRel μ undef undef := .tuple rfl (by simp)
theorem FRel.put {μ : Mu} {a : AAct} {c : Act} (r : FRel μ a c) (dst : Option Tmp) {v v' : Value} (h : VRel μ v v') : FRel μ (a.put dst v) (c.put dst v') := by
  cases dst with
  | none => exact r
  | some d =>
    by_cases hd : d < a.size
    · have e1 : a.put (some d) v = { a with t := a.t.set d v } := by simp [AAct.put, hd]
      rw [e1]
      refine ⟨by simp [Act.put, r.size], fun i => ?_, by simpa [Act.put] using r.defers⟩
      simp only [AAct.get, Act.put, Trie.get_set]
      by_cases hi : i = d
      · subst hi
        have : i < c.tmps.size := r.size ▸ hd
        simp [Array.getD, this, h]
      · have hg := r.get i
        simp only [AAct.get] at hg
        rw [if_neg hi]
        have : (c.tmps.setIfInBounds d v').getD i undef = c.tmps.getD i undef := by
          rw [Array.getD_eq_getD_getElem?, Array.getD_eq_getD_getElem?, Array.getElem?_setIfInBounds_ne (Ne.symm hi)]
        rw [this]; exact hg
    · have e1 : a.put (some d) v = a := by simp [AAct.put, hd]
      have e2 : c.put (some d) v' = c := by
        simp only [Act.put]
        have hle : c.tmps.size ≤ d := by rw [r.size]; exact Nat.le_of_not_lt hd
        rw [Array.setIfInBounds_eq_of_size_le hle]
      rw [e1, e2]; exact r
/-- An operand whose value is the same on both sides, or has its counterpart. -/
def okOperand (G : Nat) : Operand → Bool
  | .tmp _ => true
  | .const v => flat v
  | .global g => g < G
  | .func _ => true
theorem FRel.eval {P : Program} {μ : Mu} {h : Heap} {n : Nat} {w : World} {a : AAct} {c : Act} (r : FRel μ a c) (hr : Rel P μ h n w) {x : Operand} (hx : okOperand P.globals.size x = true) : VRel μ (a.eval x) (c.eval x) := by
  cases x with
  | tmp t => exact r.get t
  | const v => exact .flat_self hx
  | global g =>
    obtain ⟨m, hm, e1, e2⟩ := hr.glob g (by simpa [okOperand] using hx)
    have := VRel.ptr (μ := μ) 0 hm
    rw [e1, e2] at this
    exact this
  | func f => exact .func _ rfl rfl (by simp) (by simp)
/-! Ends of calls, ways out of codes. -/
inductive AEnd where
  | ret (v : Value)
  | pan (v : Value)
inductive ERel (μ : Mu) : AEnd → Ending → Prop
  | ret {v v' : Value} (h : VRel μ v v') : ERel μ (.ret v) (.returned v')
  | pan {v v' : Value} (h : VRel μ v v') : ERel μ (.pan v) (.panicked [{ v := v', recovered := false }])
def ACall (P : Program) (f : FuncId) (args : Array Value) (h : Heap) (n : Nat) (Q : AEnd → Heap → Nat → Prop) : Prop :=
  ∀ μ args' w, ARel μ args args' → Rel P μ h n w →
    Calls P f args' w fun e w' => ∃ μ' h' n' r, ERel μ' r e ∧ Rel P μ' h' n' w' ∧ Grow μ h w μ' h' w' ∧ n ≤ n' ∧ Q r h' n'
theorem ACall.mono {P : Program} {f : FuncId} {args : Array Value} {h : Heap} {n : Nat} {Q Q' : AEnd → Heap → Nat → Prop} (c : ACall P f args h n Q)
    (hq : ∀ r h' n', n ≤ n' → (∀ b, n' ≤ b → h'.get b = none) → Q r h' n' → ∃ h'', h''.sub h' ∧ Q' r h'' n') : ACall P f args h n Q' := by
  intro μ args' w ha hr
  refine (c μ args' w ha hr).mono ?_
  rintro e w' ⟨μ', h', n', r, he, hr', hg, hn, q⟩
  obtain ⟨h'', hs, q'⟩ := hq r h' n' hn (fun b hb => hr'.below hb) q
  exact ⟨μ', h'', n', r, he, hr'.sub hs, hg.sub hs, hn, q'⟩
inductive AExit where
  | normal
  | exit (id : Nat)
  | goto (l : Nat)
  | ret
  | pan (v : Value)
inductive XRel (μ : Mu) : AExit → Exit → Prop
  | normal : XRel μ .normal .normal
  | exit (id : Nat) : XRel μ (.exit id) (.exit id)
  | goto (l : Nat) : XRel μ (.goto l) (.goto l)
  | ret : XRel μ .ret .ret
  | pan {v v' : Value} (h : VRel μ v v') : XRel μ (.pan v) (.panic [{ v := v', recovered := false }])
abbrev APost := AExit → AAct → Heap → Nat → Prop
/-- What a concrete post is made of. -/
def lift (P : Program) (Q : APost) (μ : Mu) (h : Heap) (n : Nat) (w : World) : Exit → Act → World → Prop := fun e a' w' =>
  ∃ μ' x fr' h' n', XRel μ' x e ∧ FRel μ' fr' a' ∧ Rel P μ' h' n' w' ∧ Grow μ h w μ' h' w' ∧ n ≤ n' ∧ Q x fr' h' n'
def AWp (P : Program) (c : Code) (Q : APost) (fr : AAct) (h : Heap) (n : Nat) : Prop :=
  ∀ μ a w, FRel μ fr a → Rel P μ h n w → c.wp P (lift P Q μ h n w) a w
theorem lift.trans {P : Program} {Q : APost} {μ μ1 : Mu} {h h1 : Heap} {n n1 : Nat} {w w1 : World} (g : Grow μ h w μ1 h1 w1) (hn : n ≤ n1) {e : Exit} {a : Act} {w' : World} (l : lift P Q μ1 h1 n1 w1 e a w') : lift P Q μ h n w e a w' := by
  obtain ⟨μ', x, fr', h', n', hx, hf, hr, hg, hn', q⟩ := l
  exact ⟨μ', x, fr', h', n', hx, hf, hr, g.trans hg, Nat.le_trans hn hn', q⟩
/-- As 'wp_loop', the measure handed on with the relation. -/
theorem wp_loop_from {P : Program} {Q : Exit → Act → World → Prop} {a : Act} {w : World} {c : Code} (I : Nat → Act → World → Prop) (d : Nat) (h₀ : I d a w)
    (round : ∀ d a w, I d a w → c.wp P (Exit.then (fun a' w' => ∃ d', d' < d ∧ I d' a' w') Q) a w) : (Code.loop c).wp P Q a w := by
  intro b k cs
  have key : ∀ d a w, I d a w →
      ∃ e a' w', Q e a' w' ∧ Arrives P (lone (b.at a (.code c :: .inLoop c :: k)) cs w) b k cs e a' w' := by
    intro d
    induction d using Nat.strongRecOn with
    | _ d ih =>
      intro a w hI
      obtain ⟨e, a₁, w₁, hq, harr⟩ := round d a w hI b (.inLoop c :: k) cs
      cases e with
      | normal =>
        obtain ⟨d', hlt, hI₁⟩ := hq
        obtain ⟨e₂, a₂, w₂, hq₂, harr₂⟩ := ih d' hlt a₁ w₁ hI₁
        exact ⟨e₂, a₂, w₂, hq₂, .of_steps (Steps.trans harr (.one step_inLoop)) harr₂⟩
      | exit id => exact ⟨_, a₁, w₁, hq, .pass (x := .inLoop c) rfl (fun _ _ => .inl (by simp)) harr⟩
      | goto l => exact ⟨_, a₁, w₁, hq, .pass (x := .inLoop c) rfl (fun _ _ => .inl (by simp)) harr⟩
      | ret => exact ⟨_, a₁, w₁, hq, .pass (x := .inLoop c) rfl (fun _ _ => .inl (by simp)) harr⟩
      | panic ch => exact ⟨_, a₁, w₁, hq, .pass (x := .inLoop c) rfl (fun _ _ => .inl (by simp)) harr⟩
      | outgrown => exact ⟨_, a₁, w₁, hq, .pass (x := .inLoop c) rfl (fun _ _ => .inl (by simp)) harr⟩
  obtain ⟨e, a', w', hq, harr⟩ := key d a w h₀
  exact ⟨e, a', w', hq, .of_steps (.one step_loop) harr⟩
section rules
variable {P : Program} {Q : APost} {fr : AAct} {h : Heap} {n : Nat}
theorem lift_now {x : AExit} {μ : Mu} {e : Exit} {a : Act} {w : World} (hx : XRel μ x e) (hf : FRel μ fr a) (hr : Rel P μ h n w) (q : Q x fr h n) : lift P Q μ h n w e a w :=
  ⟨μ, x, fr, h, n, hx, hf, hr, .refl _ _ _, Nat.le_refl _, q⟩
theorem AWp.mono {c : Code} {Q' : APost} (a : AWp P c Q fr h n)
    (hq : ∀ x fr' h' n', n ≤ n' → (∀ b, n' ≤ b → h'.get b = none) → Q x fr' h' n' → Q' x fr' h' n') : AWp P c Q' fr h n := by
  intro μ c' w hf hr
  refine wp_mono (a μ c' w hf hr) ?_
  rintro e a' w' ⟨μ', x, fr', h', n', hx, hf', hr', hg, hn, q⟩
  exact ⟨μ', x, fr', h', n', hx, hf', hr', hg, hn, hq x fr' h' n' hn (fun b hb => hr'.below hb) q⟩
theorem AWp.skip (q : Q .normal fr h n) : AWp P .skip Q fr h n := fun _ _ _ hf hr => wp_skip (lift_now .normal hf hr q)
theorem AWp.label {l : Nat} (q : Q .normal fr h n) : AWp P (.label l) Q fr h n := fun _ _ _ hf hr => wp_label (lift_now .normal hf hr q)
theorem AWp.exit {id : Nat} (q : Q (.exit id) fr h n) : AWp P (.exit id) Q fr h n := fun _ _ _ hf hr => wp_exit (lift_now (.exit id) hf hr q)
theorem AWp.ret (q : Q .ret fr h n) : AWp P .ret Q fr h n := fun _ _ _ hf hr => wp_ret (lift_now .ret hf hr q)
def AExit.then (next : AAct → Heap → Nat → Prop) (Q : APost) : APost
  | .normal, a, h, n => next a h n
  | e, a, h, n => Q e a h n
theorem AWp.seq {x y : Code} (hx : AWp P x (AExit.then (AWp P y Q) Q) fr h n) : AWp P (.seq x y) Q fr h n := by
  intro μ a w hf hr
  refine wp_seq (wp_mono (hx μ a w hf hr) ?_)
  rintro e a1 w1 ⟨μ1, x1, fr1, h1, n1, hx1, hf1, hr1, hg1, hn1, q⟩
  cases hx1 with
  | normal => exact wp_mono (q μ1 a1 w1 hf1 hr1) fun e a' w' l => l.trans hg1 hn1
  | exit id => exact ⟨μ1, _, fr1, h1, n1, .exit id, hf1, hr1, hg1, hn1, q⟩
  | goto l => exact ⟨μ1, _, fr1, h1, n1, .goto l, hf1, hr1, hg1, hn1, q⟩
  | ret => exact ⟨μ1, _, fr1, h1, n1, .ret, hf1, hr1, hg1, hn1, q⟩
  | pan hv => exact ⟨μ1, _, fr1, h1, n1, .pan hv, hf1, hr1, hg1, hn1, q⟩
theorem AWp.cond {c : Operand} {x y : Code} {t : Bool} (ho : okOperand P.globals.size c = true) (hc : fr.eval c = .bool t) (hx : AWp P (if t then x else y) Q fr h n) : AWp P (.cond c x y) Q fr h n := by
  intro μ a w hf hr
  have hv := hf.eval hr ho
  rw [hc] at hv
  refine wp_cond (t := t) ?_ (hx μ a w hf hr)
  generalize a.eval c = z at hv
  cases hv; rfl
def AExit.inBlock (id : Nat) (Q : APost) : APost
  | .exit id', a, h, n => if id' = id then Q .normal a h n else Q (.exit id') a h n
  | e, a, h, n => Q e a h n
theorem AWp.block {id : Nat} {c : Code} (hx : AWp P c (AExit.inBlock id Q) fr h n) : AWp P (.block id c) Q fr h n := by
  intro μ a w hf hr
  refine wp_block (wp_mono (hx μ a w hf hr) ?_)
  rintro e a1 w1 ⟨μ1, x1, fr1, h1, n1, hx1, hf1, hr1, hg1, hn1, q⟩
  cases hx1 with
  | normal => exact ⟨μ1, _, fr1, h1, n1, .normal, hf1, hr1, hg1, hn1, q⟩
  | exit id' =>
    simp only [AExit.inBlock] at q
    simp only [Exit.inBlock]
    split
    · rename_i e; rw [if_pos e] at q; exact ⟨μ1, _, fr1, h1, n1, .normal, hf1, hr1, hg1, hn1, q⟩
    · rename_i e; rw [if_neg e] at q; exact ⟨μ1, _, fr1, h1, n1, .exit id', hf1, hr1, hg1, hn1, q⟩
  | goto l => exact ⟨μ1, _, fr1, h1, n1, .goto l, hf1, hr1, hg1, hn1, q⟩
  | ret => exact ⟨μ1, _, fr1, h1, n1, .ret, hf1, hr1, hg1, hn1, q⟩
  | pan hv => exact ⟨μ1, _, fr1, h1, n1, .pan hv, hf1, hr1, hg1, hn1, q⟩
/-- A loop: what holds at the head of each round, with how many rounds are left at most. -/
theorem AWp.loop {c : Code} (I : Nat → AAct → Heap → Nat → Prop) (d : Nat) (h0 : I d fr h n)
    (round : ∀ d fr h n, I d fr h n → AWp P c (AExit.then (fun fr' h' n' => ∃ d', d' < d ∧ I d' fr' h' n') Q) fr h n) : AWp P (.loop c) Q fr h n := by
  intro μ a w hf hr
  refine wp_loop_from (P := P) (Q := lift P Q μ h n w) (fun d a' w' => ∃ μ' fr' h' n', FRel μ' fr' a' ∧ Rel P μ' h' n' w' ∧ Grow μ h w μ' h' w' ∧ n ≤ n' ∧ I d fr' h' n') d
    ⟨μ, fr, h, n, hf, hr, .refl _ _ _, Nat.le_refl _, h0⟩ ?_
  rintro d a1 w1 ⟨μ1, fr1, h1, n1, hf1, hr1, hg1, hn1, hi⟩
  refine wp_mono (round d fr1 h1 n1 hi μ1 a1 w1 hf1 hr1) ?_
  rintro e a2 w2 ⟨μ2, x2, fr2, h2, n2, hx2, hf2, hr2, hg2, hn2, q⟩
  cases hx2 with
  | normal =>
    obtain ⟨d', hd, hi'⟩ := q
    exact ⟨d', hd, μ2, fr2, h2, n2, hf2, hr2, hg1.trans hg2, Nat.le_trans hn1 hn2, hi'⟩
  | exit id => exact ⟨μ2, _, fr2, h2, n2, .exit id, hf2, hr2, hg1.trans hg2, Nat.le_trans hn1 hn2, q⟩
  | goto l => exact ⟨μ2, _, fr2, h2, n2, .goto l, hf2, hr2, hg1.trans hg2, Nat.le_trans hn1 hn2, q⟩
  | ret => exact ⟨μ2, _, fr2, h2, n2, .ret, hf2, hr2, hg1.trans hg2, Nat.le_trans hn1 hn2, q⟩
  | pan hv => exact ⟨μ2, _, fr2, h2, n2, .pan hv, hf2, hr2, hg1.trans hg2, Nat.le_trans hn1 hn2, q⟩
end rules
end Go.Abs
/- How an abstract heap turns: a new object, an object that is owned turned, one taken away; and what that is in the world. -/
namespace Go.Abs
open Go
def Mu.set (μ : Mu) (b : Nat) (m : Im) : Mu := fun i => if i = b then some m else μ i
theorem Mu.le_set {μ : Mu} {b : Nat} {m : Im} (h : μ b = none) : μ.le (μ.set b m) := by
  intro i x e
  unfold Mu.set
  split
  · rename_i hi; subst hi; rw [h] at e; cases e
  · exact e
theorem Mu.set_same (μ : Mu) (b : Nat) (m : Im) : (μ.set b m) b = some m := by simp [Mu.set]
theorem Mu.set_ne (μ : Mu) {b i : Nat} (m : Im) (h : i ≠ b) : (μ.set b m) i = μ i := by simp [Mu.set, h]
theorem Rel.of_heap {P : Program} {μ : Mu} {h : Heap} {n : Nat} {w w' : World} (e : w'.heap = w.heap) (r : Rel P μ h n w) : Rel P μ h n w' :=
  ⟨fun b o hb => by obtain ⟨m, x, a, c, d⟩ := r.obj b o hb; exact ⟨m, x, a, e ▸ c, d⟩, r.sep, r.bound, r.glob⟩
theorem Grow.drew (μ : Mu) (h : Heap) (w : World) (d : Nat) : Grow μ h w μ h { w with drawn := d } :=
  ⟨μ.le_refl, Nat.le_refl _, rfl, rfl, rfl, fun _ _ _ => rfl, fun b' o' m' a b c _ => ⟨b', o', m', a, b, c, rfl⟩⟩
/-- A new block. -/
theorem Rel.push {P : Program} {μ : Mu} {h : Heap} {n : Nat} {w : World} (r : Rel P μ h n w) (o : AObj) (x : Obj) (m : Im) (hm : m.blk = w.heap.size)
    (hn : P.globals.size ≤ n) (ho : ORel (μ.set n m) o x m) :
    Rel P (μ.set n m) (h.set n o) (n + 1) { w with heap := w.heap.push x } ∧ Grow μ h w (μ.set n m) (h.set n o) { w with heap := w.heap.push x } := by
  have hnone := r.bound n (Nat.le_refl _)
  have hle : μ.le (μ.set n m) := Mu.le_set hnone
  have hlt : ∀ b o m, h.get b = some o → μ b = some m → m.blk < w.heap.size := by
    intro b o m' e1 e2
    obtain ⟨m0, x0, f1, f2, _⟩ := r.obj b o e1
    rw [e2] at f1; cases f1
    exact (Array.getElem?_eq_some_iff.1 f2).1
  refine ⟨⟨?_, ?_, ?_, ?_⟩, ⟨hle, by simp, rfl, rfl, rfl, ?_, ?_⟩⟩
  · intro b o' e
    rw [Trie.get_set] at e
    by_cases hb : b = n
    · subst hb; simp only [if_true, Option.some.injEq] at e; subst e
      exact ⟨m, x, Mu.set_same _ _ _, by simp [hm], ho⟩
    · rw [if_neg hb] at e
      obtain ⟨m', x', f1, f2, f3⟩ := r.obj b o' e
      refine ⟨m', x', by rw [Mu.set_ne _ _ hb]; exact f1, ?_, f3.mono hle⟩
      have := (Array.getElem?_eq_some_iff.1 f2).1
      show (w.heap.push x)[m'.blk]? = _
      rw [Array.getElem?_push, if_neg (by omega)]; exact f2
  · intro b b' o1 o2 m1 m2 e1 e2 e3 e4 e5 e6
    rw [Trie.get_set] at e1 e4
    by_cases hb : b = n
    · subst hb
      rw [if_neg (Ne.symm e3)] at e4
      rw [Mu.set_same] at e5; rw [Mu.set_ne _ _ (Ne.symm e3)] at e6
      cases e5
      have := hlt _ _ _ e4 e6
      omega
    · rw [if_neg hb] at e1
      rw [Mu.set_ne _ _ hb] at e5
      by_cases hb' : b' = n
      · subst hb'
        rw [Mu.set_same] at e6; cases e6
        have := hlt _ _ _ e1 e5
        omega
      · rw [if_neg hb'] at e4
        rw [Mu.set_ne _ _ hb'] at e6
        exact r.sep b b' o1 o2 m1 m2 e1 e2 e3 e4 e5 e6
  · intro b hb
    rw [Mu.set_ne _ _ (by omega)]; exact r.bound b (by omega)
  · intro g hg
    obtain ⟨m', f1, f2, f3⟩ := r.glob g hg
    exact ⟨m', by rw [Mu.set_ne _ _ (by omega)]; exact f1, f2, f3⟩
  · intro c hc _
    show (w.heap.push x)[c]? = _
    rw [Array.getElem?_push, if_neg (by omega)]
  · intro b' o' m' e1 e2 e3 e4
    rw [Trie.get_set] at e1
    by_cases hb : b' = n
    · subst hb; rw [Mu.set_same] at e3; cases e3; omega
    · rw [if_neg hb] at e1; rw [Mu.set_ne _ _ hb] at e3
      exact ⟨b', o', m', e1, e2, e3, rfl⟩
/-- An object that is owned is turned. -/
theorem Rel.turn {P : Program} {μ : Mu} {h : Heap} {n : Nat} {w w' : World} (r : Rel P μ h n w) {b : Nat} {o : AObj} (o' : AObj) (x' : Obj) {m : Im}
    (hb : h.get b = some o) (he : o.excl = true) (hm : μ b = some m) (ho : ORel μ o' x' m)
    (hw : w'.heap = w.heap.setIfInBounds m.blk x') (hos : w'.os = w.os) (ht : w'.tape = w.tape) (hout : w'.output = w.output) :
    Rel P μ (h.set b o') n w' ∧ Grow μ h w μ (h.set b o') w' := by
  obtain ⟨m0, x0, f1, f2, _⟩ := r.obj b o hb
  rw [hm] at f1; cases f1
  have hlt := (Array.getElem?_eq_some_iff.1 f2).1
  refine ⟨⟨?_, ?_, r.bound, r.glob⟩, ⟨μ.le_refl, by rw [hw]; simp, hos, ht, hout, ?_, ?_⟩⟩
  · intro b1 o1 e
    rw [Trie.get_set] at e
    by_cases hb1 : b1 = b
    · subst hb1; simp only [if_true, Option.some.injEq] at e; subst e
      exact ⟨m, x', hm, by rw [hw]; simp [hlt], ho⟩
    · rw [if_neg hb1] at e
      obtain ⟨m', x1, g1, g2, g3⟩ := r.obj b1 o1 e
      have hne := r.sep b b1 o o1 m m' hb he (Ne.symm hb1) e hm g1
      exact ⟨m', x1, g1, by rw [hw, Array.getElem?_setIfInBounds_ne hne]; exact g2, g3⟩
  · intro b1 b2 o1 o2 m1 m2 e1 e2 e3 e4 e5 e6
    rw [Trie.get_set] at e1 e4
    by_cases h1 : b1 = b
    · subst h1
      rw [if_neg (Ne.symm e3)] at e4
      exact r.sep b1 b2 o o2 m1 m2 hb he e3 e4 e5 e6
    · rw [if_neg h1] at e1
      by_cases h2 : b2 = b
      · subst h2; exact r.sep b1 b2 o1 o m1 m2 e1 e2 e3 hb e5 e6
      · rw [if_neg h2] at e4
        exact r.sep b1 b2 o1 o2 m1 m2 e1 e2 e3 e4 e5 e6
  · intro c _ hk
    have := hk b o m hb he hm
    rw [hw, Array.getElem?_setIfInBounds_ne this]
  · intro b1 o1 m1 e1 e2 e3 _
    rw [Trie.get_set] at e1
    by_cases h1 : b1 = b
    · subst h1; exact ⟨b1, o, m1, hb, he, e3, rfl⟩
    · rw [if_neg h1] at e1; exact ⟨b1, o1, m1, e1, e2, e3, rfl⟩
/-- An object that is owned goes over to a new name, turned. -/
theorem Rel.move {P : Program} {μ : Mu} {h : Heap} {n : Nat} {w w' : World} (r : Rel P μ h n w) {b : Nat} {o : AObj} (o' : AObj) (x' : Obj) {m m' : Im} (hn : P.globals.size ≤ n)
    (hb : h.get b = some o) (he : o.excl = true) (hm : μ b = some m) (hm' : m'.blk = m.blk) (ho : ORel (μ.set n m') o' x' m')
    (hw : w'.heap = w.heap.setIfInBounds m.blk x') (hos : w'.os = w.os) (ht : w'.tape = w.tape) (hout : w'.output = w.output) :
    Rel P (μ.set n m') ((h.del b).set n o') (n + 1) w' ∧ Grow μ h w (μ.set n m') ((h.del b).set n o') w' := by
  obtain ⟨m0, x0, f1, f2, _⟩ := r.obj b o hb
  rw [hm] at f1; cases f1
  have hlt := (Array.getElem?_eq_some_iff.1 f2).1
  have hnone := r.bound n (Nat.le_refl _)
  have hle : μ.le (μ.set n m') := Mu.le_set hnone
  have hbn : b ≠ n := by rintro rfl; rw [hnone] at hm; cases hm
  have hget : ∀ i, ((h.del b).set n o').get i = if i = n then some o' else if i = b then none else h.get i := by
    intro i; rw [Trie.get_set, Trie.get_del]
  refine ⟨⟨?_, ?_, ?_, ?_⟩, ⟨hle, by rw [hw]; simp, hos, ht, hout, ?_, ?_⟩⟩
  · intro b1 o1 e
    rw [hget] at e
    by_cases h1 : b1 = n
    · rw [if_pos h1] at e; subst h1; simp only [Option.some.injEq] at e; subst e
      exact ⟨m', x', Mu.set_same _ _ _, by rw [hm', hw]; simp [hlt], ho⟩
    · rw [if_neg h1] at e
      by_cases h2 : b1 = b
      · rw [if_pos h2] at e; cases e
      · rw [if_neg h2] at e
        obtain ⟨m1, x1, g1, g2, g3⟩ := r.obj b1 o1 e
        have hne := r.sep b b1 o o1 m m1 hb he (Ne.symm h2) e hm g1
        exact ⟨m1, x1, by rw [Mu.set_ne _ _ h1]; exact g1, by rw [hw, Array.getElem?_setIfInBounds_ne hne]; exact g2, g3.mono hle⟩
  · intro b1 b2 o1 o2 m1 m2 e1 e2 e3 e4 e5 e6
    rw [hget] at e1 e4
    by_cases h1 : b1 = n
    · subst h1
      rw [if_neg (Ne.symm e3)] at e4
      rw [Mu.set_same] at e5; rw [Mu.set_ne _ _ (Ne.symm e3)] at e6; cases e5
      by_cases h2 : b2 = b
      · rw [if_pos h2] at e4; cases e4
      · rw [if_neg h2] at e4
        rw [hm']; exact r.sep b b2 o o2 m m2 hb he (Ne.symm h2) e4 hm e6
    · rw [if_neg h1] at e1; rw [Mu.set_ne _ _ h1] at e5
      by_cases h1b : b1 = b
      · rw [if_pos h1b] at e1; cases e1
      · rw [if_neg h1b] at e1
        by_cases h2 : b2 = n
        · subst h2; rw [Mu.set_same] at e6; cases e6
          rw [hm']; exact fun e => r.sep b b1 o o1 m m1 hb he (Ne.symm h1b) e1 hm e5 e.symm
        · rw [if_neg h2] at e4; rw [Mu.set_ne _ _ h2] at e6
          by_cases h2b : b2 = b
          · rw [if_pos h2b] at e4; cases e4
          · rw [if_neg h2b] at e4
            exact r.sep b1 b2 o1 o2 m1 m2 e1 e2 e3 e4 e5 e6
  · intro i hi
    rw [Mu.set_ne _ _ (by omega)]; exact r.bound i (by omega)
  · intro g hg
    obtain ⟨m1, g1, g2, g3⟩ := r.glob g hg
    exact ⟨m1, by rw [Mu.set_ne _ _ (by omega)]; exact g1, g2, g3⟩
  · intro c _ hk
    have := hk b o m hb he hm
    rw [hw, Array.getElem?_setIfInBounds_ne this]
  · intro b1 o1 m1 e1 e2 e3 e4
    rw [hget] at e1
    by_cases h1 : b1 = n
    · subst h1; rw [Mu.set_same] at e3; cases e3
      exact ⟨b, o, m, hb, he, hm, hm'.symm⟩
    · rw [if_neg h1] at e1; rw [Mu.set_ne _ _ h1] at e3
      by_cases h2 : b1 = b
      · rw [if_pos h2] at e1; cases e1
      · rw [if_neg h2] at e1; exact ⟨b1, o1, m1, e1, e2, e3, rfl⟩
end Go.Abs
/- Loads and stores. -/
namespace Go.Abs
open Go
theorem VRel.cells {μ : Mu} {v v' : Value} (r : VRel μ v v') : ARel μ v.cells v'.cells := by
  have one : ∀ {x y : Value}, VRel μ x y → ARel μ #[x] #[y] := by
    intro x y h
    refine ⟨rfl, fun i a b ha hb => ?_⟩
    cases i with
    | zero => simp at ha hb; subst ha; subst hb; exact h
    | succ i => simp at ha
  cases r with
  | agg hc h => exact ⟨hc, h⟩
  | bool b => exact one (.bool b)
  | int k n => exact one (.int k n)
  | string s => exact one (.string s)
  | pnil => exact one .pnil
  | ptr o e => exact one (.ptr o e)
  | snil => exact one .snil
  | slice o len cap cap' e hc => exact one (.slice o len cap cap' e hc)
  | szero b o a' => exact one (.szero b o a')
  | mnil => exact one .mnil
  | map e => exact one (.map e)
  | nilFunc => exact one .nilFunc
  | func fn hf hc a b => exact one (.func fn hf hc a b)
  | nilIface => exact one .nilIface
  | iface t h => exact one (.iface t h)
  | tuple hc h => exact one (.tuple hc h)
theorem VRel.oneCell {μ : Mu} {v v' : Value} (r : VRel μ v v') : v'.oneCell' = v.oneCell' := by cases r <;> rfl
def isAggE (P : Program) (t : TypeId) : Option Bool :=
  match P.underlying t with
  | some (.struct _) => some true
  | some (.array _ _) => some true
  | some _ => some false
  | none => none
theorem run_underlying_of {P : Program} {t : TypeId} {d : TypeDesc} (h : P.underlying t = some d) (w : World) : (underlying t).run P w = .ok d w := by
  simp [underlying, h]
theorem run_typeInfo_of {P : Program} {t : TypeId} {d : TypeInfo} (h : P.info? t = some d) (w : World) : (typeInfo t).run P w = .ok d w := by
  simp [typeInfo, h]
theorem run_sizeOf_of {P : Program} {t : TypeId} {d : TypeInfo} (h : P.info? t = some d) (w : World) : (Go.sizeOf t).run P w = .ok d.size w := by
  simp [Go.sizeOf, typeInfo, h]
theorem run_isAgg_of {P : Program} {t : TypeId} {b : Bool} (h : isAggE P t = some b) (w : World) : (isAgg t).run P w = .ok b w := by
  unfold isAggE at h
  unfold isAgg
  split at h
  · rename_i f e; cases h; simp [run_underlying_of e]
  · rename_i f g e; cases h; simp [run_underlying_of e]
  · rename_i d h1 h2 e
    cases h
    simp only [Sem.run_bind, run_underlying_of e, Result.andThen_ok]
    cases d <;> first | rfl | exact (h1 _ rfl).elim | exact (h2 _ _ rfl).elim
  · cases h
theorem Addr.add_plain (b o i : Nat) : (⟨b, o, none⟩ : Addr).add i = ⟨b, o + i, none⟩ := by
  unfold Addr.add
  split
  · rename_i h; subst h; rfl
  · rfl
theorem cell_of_block {w : World} {b : Nat} {c : Array Value} {e : TypeId} {f : Nat × Nat} (h : w.heap[b]? = some (.cells c e f)) (o : Nat) : w.cell? ⟨b, o, none⟩ = c[o]? := by
  simp [World.cell?, h]
theorem run_load_cell {P : Program} {w : World} {a : Addr} {v : Value} (h : w.cell? a = some v) (m : Mode) : (load a m).run P w = .ok v w := by simp [h]
theorem run_loadCellsFrom {P : Program} {w : World} {b o : Nat} : ∀ (n i : Nat) (acc : Array Value) (xs : List Value), xs.length = n →
    (∀ j v, xs[j]? = some v → w.cell? ⟨b, o + (i + j), none⟩ = some v) → (loadCellsFrom ⟨b, o, none⟩ i n acc).run P w = .ok (acc ++ xs.toArray) w := by
  intro n
  induction n with
  | zero => intro i acc xs hl _; cases xs <;> simp_all [loadCellsFrom]
  | succ n ih =>
    intro i acc xs hl h
    cases xs with
    | nil => simp at hl
    | cons x xs =>
      have h0 := h 0 x (by simp)
      simp only [Nat.add_zero] at h0
      simp only [loadCellsFrom, Sem.run_bind, Addr.add_plain]
      rw [run_load_cell h0]
      simp only [Result.andThen_ok]
      rw [ih (i + 1) (acc.push x) xs (by simpa using hl) (fun j v hj => by
        have := h (j + 1) v (by simpa using hj)
        rw [show o + (i + 1 + j) = o + (i + (j + 1)) by omega]; exact this)]
      congr 1
      apply Array.ext'
      simp
theorem run_loadCells {P : Program} {w : World} {b o : Nat} (xs : List Value)
    (h : ∀ j v, xs[j]? = some v → w.cell? ⟨b, o + j, none⟩ = some v) : (loadCells ⟨b, o, none⟩ xs.length).run P w = .ok xs.toArray w := by
  unfold loadCells
  rw [run_loadCellsFrom xs.length 0 #[] xs rfl (fun j v hj => by rw [Nat.zero_add]; exact h j v hj)]
  simp
/-- The cells from a place on. -/
def rowE (h : Heap) (b o n : Nat) : Option (List Value) :=
  if n = 0 then some [] else
  match h.get b with
  | some (.cells cs _ _) => if o + n ≤ cs.length then some ((cs.drop o).take n) else none
  | _ => none
theorem rowE_of {h : Heap} {b o n : Nat} {cs : List Value} {own : Bool} {ci : CI} (hb : h.get b = some (.cells cs own ci)) (hle : o + n ≤ cs.length) : rowE h b o n = some ((cs.drop o).take n) := by
  unfold rowE
  split
  · rename_i e; subst e; simp
  · simp only [hb]; rw [if_pos hle]
theorem rowE_zero (h : Heap) (b o : Nat) : rowE h b o 0 = some [] := rfl
/-- What a row of an abstract block is in the world. -/
theorem rowE_sound {P : Program} {μ : Mu} {h : Heap} {n : Nat} {w : World} (r : Rel P μ h n w) {b o k : Nat} {m : Im} (hm : μ b = some m) {xs : List Value} (e : rowE h b o k = some xs) :
    ∃ m : Im, ∃ xs' : List Value, μ b = some m ∧ xs'.length = k ∧ xs.length = k ∧ (∀ j v, xs'[j]? = some v → w.cell? ⟨m.blk, m.off + o + j, none⟩ = some v) ∧ ARel μ xs.toArray xs'.toArray := by
  unfold rowE at e
  by_cases hk0 : k = 0
  · rw [if_pos hk0] at e
    cases e
    subst hk0
    exact ⟨m, [], hm, rfl, rfl, by simp, rfl, by simp⟩
  rw [if_neg hk0] at e
  split at e
  · rename_i cs own kk hb
    split at e
    · rename_i hle
      cases e
      obtain ⟨m, x, f1, f2, f3⟩ := r.obj b _ hb
      cases x with
      | cells c el fr =>
        obtain ⟨g1, g2, g3, _⟩ := f3
        refine ⟨m, (c.toList.drop (m.off + o)).take k, f1, ?_, ?_, ?_, ?_⟩
        · simp; omega
        · simp; omega
        · intro j v hj
          rw [cell_of_block f2, ← hj]
          have hjk : j < k := by
            have := (List.getElem?_eq_some_iff.1 hj).1
            simp at this; omega
          rw [List.getElem?_take, if_pos hjk, List.getElem?_drop]
          simp [Array.getElem?_toList]
        · refine ⟨by simp; omega, fun i a a' h1 h2 => ?_⟩
          simp only [List.getElem?_toArray] at h1 h2
          have hik : i < k := by
            have := (List.getElem?_eq_some_iff.1 h1).1
            simp at this; omega
          rw [List.getElem?_take, if_pos hik, List.getElem?_drop] at h1 h2
          obtain ⟨a'', q1, q2⟩ := g3 (o + i) a h1
          rw [Array.getElem?_toList, show m.off + o + i = m.off + (o + i) by omega, q1] at h2
          cases h2; exact q2
      | _ => exact f3.elim
    · cases e
  · cases e
def loadE (P : Program) (t : TypeId) (v : Value) (h : Heap) : Option Value :=
  match v with
  | .pointer (some ⟨b, o, none⟩) =>
    match isAggE P t, P.info? t with
    | some true, some i => (rowE h b o i.size).map fun xs => .agg xs.toArray
    | some false, some _ => match h.get b with
      | some (.cells cs _ _) => cs[o]?
      | _ => none
    | _, _ => none
  | _ => none
theorem loadE_sound {P : Program} {μ : Mu} {h : Heap} {n : Nat} {w : World} (r : Rel P μ h n w) {t : TypeId} {v v' x : Value} (hv : VRel μ v v') (e : loadE P t v h = some x) :
    ∃ x', (Instr.loadAt t v').run P w = .ok x' w ∧ VRel μ x x' := by
  unfold loadE at e
  split at e
  · rename_i b o
    cases hv with
    | ptr o hm =>
      rename_i m
      split at e
      · rename_i i e1 e2
        simp only [Option.map_eq_some_iff] at e
        obtain ⟨xs, e3, rfl⟩ := e
        obtain ⟨m', xs', f1, f2, _, f4, f5⟩ := rowE_sound r hm e3
        rw [hm] at f1; cases f1
        refine ⟨.agg xs'.toArray, ?_, f5.agg⟩
        simp only [Instr.loadAt, Instr.sureAddr, loadVar, Sem.run_bind, Sem.run_pure, Result.andThen_ok, run_isAgg_of e1, if_true, run_sizeOf_of e2]
        rw [← f2, run_loadCells xs' f4]
        rfl
      · rename_i i e1 e2
        split at e
        · rename_i cs own k hb
          obtain ⟨m', y, f1, f2, f3⟩ := r.obj b _ hb
          rw [hm] at f1; cases f1
          cases y with
          | cells c el fr =>
            obtain ⟨_, _, g3, _⟩ := f3
            obtain ⟨x', q1, q2⟩ := g3 o x e
            refine ⟨x', ?_, q2⟩
            simp only [Instr.loadAt, Instr.sureAddr, loadVar, Sem.run_bind, Sem.run_pure, Result.andThen_ok, run_isAgg_of e1, Bool.false_eq_true, if_false]
            exact run_load_cell (by rw [cell_of_block f2]; exact q1) _
          | _ => exact f3.elim
        · cases e
      · cases e
  · cases e
/-! Stores. -/
def setAll : List Value → Nat → List Value → List Value
  | cs, _, [] => cs
  | cs, o, x :: xs => setAll (cs.set o x) (o + 1) xs
theorem length_setAll : ∀ (xs cs : List Value) (o : Nat), (setAll cs o xs).length = cs.length := by
  intro xs
  induction xs with
  | nil => intros; rfl
  | cons x xs ih => intro cs o; simp [setAll, ih]
theorem modify_of {heap : Array Obj} {i : Nat} {x : Obj} (h : heap[i]? = some x) (f : Obj → Obj) : heap.modify i f = heap.setIfInBounds i (f x) := by
  obtain ⟨hlt, hx⟩ := Array.getElem?_eq_some_iff.1 h
  apply Array.ext
  · simp
  · intro j h1 h2
    rw [Array.getElem_modify, Array.getElem_setIfInBounds]
    · by_cases e : i = j
      · subst e; simp [hx]
      · simp [e]
    · simpa using h1
theorem run_storeCells_one {P : Program} {μ : Mu} {h : Heap} {n : Nat} {w : World} (r : Rel P μ h n w) {b o : Nat} {k : CI} {cs : List Value} {m : Im} {x x' : Value}
    (hb : h.get b = some (.cells cs true k)) (hm : μ b = some m) (hx : VRel μ x x') (h1 : x.oneCell' = true) (ho : o < cs.length) :
    ∃ w', (store ⟨m.blk, m.off + o, none⟩ x').run P w = .ok () w' ∧ Rel P μ (h.set b (.cells (cs.set o x) true k)) n w' ∧ Grow μ h w μ (h.set b (.cells (cs.set o x) true k)) w' := by
  obtain ⟨m', y, f1, f2, f3⟩ := r.obj b _ hb
  rw [hm] at f1; cases f1
  cases y with
  | cells c el fr =>
    obtain ⟨g1, g2, g3, g4, g5, g6, g7⟩ := f3
    have hcell : w.cell? ⟨m.blk, m.off + o, none⟩ = some (c[m.off + o]'(by omega)) := by
      rw [cell_of_block f2, Array.getElem?_eq_getElem]
    have hfro : w.frozen? ⟨m.blk, m.off + o, none⟩ = false := by
      have := g4 rfl (m.off + o) (by omega) (by omega)
      simp only [World.frozen?, f2]
      simpa [Bool.and_eq_true, decide_eq_true_eq] using this
    refine ⟨w.setCell ⟨m.blk, m.off + o, none⟩ x', ?_, ?_⟩
    · rw [run_store P w _ _ _ (by rw [hx.oneCell]; exact h1), hcell]
      simp [hfro]
    · refine r.turn (o' := .cells (cs.set o x) true k) (.cells (c.setIfInBounds (m.off + o) x') el fr) hb rfl hm ?_ ?_ rfl rfl rfl
      · refine ⟨by simp [g1], by simpa using g2, ?_, ?_, g5, g6, fun e => by simpa using g7 e⟩
        · intro i v hi
          rw [List.getElem?_set] at hi
          by_cases e : o = i
          · subst e
            simp only [if_true, ho] at hi
            cases hi
            exact ⟨x', by rw [Array.getElem?_setIfInBounds_self_of_lt (by omega)], hx⟩
          · rw [if_neg e] at hi
            obtain ⟨v', q1, q2⟩ := g3 i v hi
            exact ⟨v', by rw [Array.getElem?_setIfInBounds_ne (by omega)]; exact q1, q2⟩
        · intro _ i h1 h2
          exact g4 rfl i h1 (by simpa using h2)
      · simp only [World.setCell]
        rw [modify_of f2]
        simp
  | _ => exact f3.elim
theorem run_storeCells {P : Program} {μ : Mu} {n : Nat} {b : Nat} {k : CI} {m : Im} (hm : μ b = some m) : ∀ (xs xs' : List Value) (h : Heap) (w : World) (cs : List Value) (o i : Nat),
    Rel P μ h n w → h.get b = some (.cells cs true k) → ARel μ xs.toArray xs'.toArray → (xs.all fun x => x.oneCell') = true → o + i + xs.length ≤ cs.length →
    ∃ w', (storeCells ⟨m.blk, m.off + o, none⟩ xs' i).run P w = .ok () w' ∧ ∃ h', (∀ j, h'.get j = if j = b then some (.cells (setAll cs (o + i) xs) true k) else h.get j) ∧ Rel P μ h' n w' ∧ Grow μ h w μ h' w' := by
  intro xs
  induction xs with
  | nil =>
    intro xs' h w cs o i r hb ha _ _
    have : xs' = [] := by have := ha.1; simp at this; exact List.eq_nil_of_length_eq_zero this.symm
    subst this
    refine ⟨w, rfl, h, fun j => ?_, r, .refl _ _ _⟩
    by_cases e : j = b
    · subst e; simp [setAll, hb]
    · simp [e]
  | cons x xs ih =>
    intro xs' h w cs o i r hb ha h1 hle
    cases xs' with
    | nil => have := ha.1; simp at this
    | cons x' xs' =>
      simp only [List.all_cons, Bool.and_eq_true] at h1
      simp only [List.length_cons] at hle
      have hx : VRel μ x x' := ha.2 0 x x' (by simp) (by simp)
      have ha' : ARel μ xs.toArray xs'.toArray := ⟨by have := ha.1; simpa using this, fun j a a' q1 q2 => ha.2 (j + 1) a a' (by simpa using q1) (by simpa using q2)⟩
      obtain ⟨w1, e1, r1, g1⟩ := run_storeCells_one r (o := o + i) hb hm hx h1.1 (by omega)
      obtain ⟨w2, e2, h2, q2, r2, g2⟩ := ih xs' _ w1 (cs.set (o + i) x) o (i + 1) r1 (Trie.get_set_same _ _ _) ha' h1.2 (by simp; omega)
      refine ⟨w2, ?_, h2, ?_, r2, g1.trans g2⟩
      · simp only [storeCells, Sem.run_bind, Addr.add_plain]
        rw [show m.off + o + i = m.off + (o + i) by omega, e1]
        exact e2
      · intro j
        rw [q2 j, Trie.get_set]
        by_cases e : j = b
        · simp [e, setAll, show o + (i + 1) = o + i + 1 by omega]
        · simp [e]
def storeE (P : Program) (t : TypeId) (v x : Value) (h : Heap) : Option Heap :=
  match v with
  | .pointer (some ⟨b, o, none⟩) =>
    match h.get b, P.info? t with
    | some (.cells cs true k), some i =>
      if (x.cells.toList.length == i.size && x.cells.toList.all (fun x => x.oneCell') && decide (o + i.size ≤ cs.length)) = true then some (h.set b (.cells (setAll cs o x.cells.toList) true k)) else none
    | _, _ => none
  | _ => none
theorem Rel.ext {P : Program} {μ : Mu} {h h' : Heap} {n : Nat} {w : World} (e : ∀ j, h'.get j = h.get j) (r : Rel P μ h n w) : Rel P μ h' n w :=
  r.sub fun b o hb => by rw [← e]; exact hb
theorem Grow.ext {μ μ' : Mu} {h h1 h2 : Heap} {w w' : World} (e : ∀ j, h2.get j = h1.get j) (g : Grow μ h w μ' h1 w') : Grow μ h w μ' h2 w' :=
  g.sub fun b o hb => by rw [← e]; exact hb
theorem storeE_sound {P : Program} {μ : Mu} {h h' : Heap} {n : Nat} {w : World} (r : Rel P μ h n w) {t : TypeId} {v v' x x' : Value} (hv : VRel μ v v') (hx : VRel μ x x') (e : storeE P t v x h = some h') :
    ∃ w', (Instr.storeAt t v' x').run P w = .ok () w' ∧ Rel P μ h' n w' ∧ Grow μ h w μ h' w' := by
  unfold storeE at e
  split at e
  · rename_i b o
    cases hv with
    | ptr o hm =>
      rename_i m
      split at e
      · rename_i cs k i e1 e2
        split at e
        · rename_i hc
          cases e
          simp only [Bool.and_eq_true, beq_iff_eq, decide_eq_true_eq] at hc
          obtain ⟨⟨c1, c2⟩, c3⟩ := hc
          have hcells := hx.cells
          have ha : ARel μ x.cells.toList.toArray x'.cells.toList.toArray := by simpa using hcells
          obtain ⟨w', q1, h2, q2, r2, g2⟩ := run_storeCells hm x.cells.toList x'.cells.toList h w cs o 0 r e1 ha c2 (by omega)
          have hext : ∀ j, (h.set b (.cells (setAll cs o x.cells.toList) true k)).get j = h2.get j := by
            intro j; rw [q2 j, Trie.get_set]; rfl
          refine ⟨w', ?_, r2.ext hext, g2.ext hext⟩
          have hs : x'.cells.size = i.size := by rw [← hcells.1, ← c1]; simp
          simp only [Instr.storeAt, Instr.sureAddr, storeVar, Sem.run_bind, Sem.run_pure, Result.andThen_ok, run_sizeOf_of e2, hs, ne_eq, not_true_eq_false, if_false]
          exact q1
        · cases e
      · cases e
  · cases e
end Go.Abs
/- Regions: operations one by one; a region that draws its order: calm operations (which read alone) first, the others one at a time. -/
namespace Go.Abs
open Go
/-! Frames that read the same. -/
structure AAct.Eqv (a b : AAct) : Prop where
  size : a.size = b.size
  defers : a.defers = b.defers
  get : ∀ i, a.get i = b.get i
theorem AAct.Eqv.refl (a : AAct) : a.Eqv a := ⟨rfl, rfl, fun _ => rfl⟩
theorem AAct.Eqv.symm {a b : AAct} (h : a.Eqv b) : b.Eqv a := ⟨h.size.symm, h.defers.symm, fun i => (h.get i).symm⟩
theorem AAct.Eqv.trans {a b c : AAct} (h : a.Eqv b) (k : b.Eqv c) : a.Eqv c := ⟨h.size.trans k.size, h.defers.trans k.defers, fun i => (h.get i).trans (k.get i)⟩
theorem AAct.size_put (a : AAct) (d : Option Tmp) (v : Value) : (a.put d v).size = a.size := by
  cases d with
  | none => rfl
  | some d => simp only [AAct.put]; split <;> rfl
theorem AAct.defers_put (a : AAct) (d : Option Tmp) (v : Value) : (a.put d v).defers = a.defers := by
  cases d with
  | none => rfl
  | some d => simp only [AAct.put]; split <;> rfl
theorem AAct.get_put (a : AAct) (d : Tmp) (v : Value) (i : Nat) : (a.put (some d) v).get i = if i = d ∧ d < a.size then v else a.get i := by
  simp only [AAct.put]
  by_cases h : d < a.size
  · simp only [h, if_true, and_true, AAct.get, Trie.get_set]
    by_cases e : i = d <;> simp [e]
  · simp [h]
theorem FRel.eqv {μ : Mu} {a b : AAct} {c : Act} (e : a.Eqv b) (r : FRel μ a c) : FRel μ b c :=
  ⟨r.size.trans e.size, fun i => e.get i ▸ r.get i, e.defers ▸ r.defers⟩
theorem AAct.Eqv.put {a b : AAct} (e : a.Eqv b) (d : Option Tmp) (v : Value) : (a.put d v).Eqv (b.put d v) := by
  refine ⟨by rw [a.size_put, b.size_put, e.size], by rw [a.defers_put, b.defers_put, e.defers], fun i => ?_⟩
  cases d with
  | none => exact e.get i
  | some d => rw [AAct.get_put, AAct.get_put, e.size, e.get]
theorem AAct.put_comm (a : AAct) {x y : Option Tmp} (v u : Value) (h : ∀ d, x = some d → y ≠ some d) : ((a.put x v).put y u).Eqv ((a.put y u).put x v) := by
  refine ⟨by simp only [AAct.size_put], by simp only [AAct.defers_put], fun i => ?_⟩
  cases x with
  | none => rfl
  | some d =>
    cases y with
    | none => rfl
    | some e =>
      have hne : d ≠ e := fun he => h d rfl (he ▸ rfl)
      simp only [AAct.get_put, AAct.size_put]
      by_cases h1 : i = d
      · subst h1; simp [hne]
      · simp [h1]
def yieldedA (ops : Array Oper) (fr : AAct) (j : Nat) : Option Bool :=
  match (ops[j]?).bind (·.dst) with
  | some t => match fr.get t with
    | .bool b => some b
    | _ => none
  | none => none
theorem yielded_rel {μ : Mu} {fr : AAct} {a : Act} (r : FRel μ fr a) (ops : Array Oper) (j : Nat) : yielded ops a.tmps j = yieldedA ops fr j := by
  unfold yielded yieldedA
  cases h : (ops[j]?).bind (·.dst) with
  | none => rfl
  | some t =>
    have hv := r.get t
    simp only [Option.bind_some]
    rw [Array.getD_eq_getD_getElem?] at hv
    cases ht : a.tmps[t]? with
    | none =>
      rw [ht] at hv
      simp only [Option.getD_none] at hv
      generalize fr.get t = z at hv
      cases hv; rfl
    | some x =>
      rw [ht] at hv
      simp only [Option.getD_some] at hv
      generalize fr.get t = z at hv
      cases hv <;> rfl
def wantedA (ops : Array Oper) (o : Oper) (fr : AAct) : Bool := Region.wanted o (yieldedA ops fr)
theorem wanted_rel {μ : Mu} {fr : AAct} {a : Act} (r : FRel μ fr a) (ops : Array Oper) (o : Oper) : Region.wanted o (yielded ops a.tmps) = wantedA ops o fr := by
  unfold wantedA
  congr 1
  funext j
  exact yielded_rel r ops j
/-! One operation. -/
abbrev ANextK := AAct → Heap → Nat → Prop
def liftK (P : Program) (K : ANextK) (μ : Mu) (h : Heap) (n : Nat) (w : World) : Act → World → Prop := fun a' w' =>
  ∃ μ' fr' h' n', FRel μ' fr' a' ∧ Rel P μ' h' n' w' ∧ Grow μ h w μ' h' w' ∧ n ≤ n' ∧ K fr' h' n'
theorem liftK.trans {P : Program} {K : ANextK} {μ μ1 : Mu} {h h1 : Heap} {n n1 : Nat} {w w1 : World} (g : Grow μ h w μ1 h1 w1) (hn : n ≤ n1) {a : Act} {w' : World} (l : liftK P K μ1 h1 n1 w1 a w') : liftK P K μ h n w a w' := by
  obtain ⟨μ', fr', h', n', hf, hr, hg, hn', q⟩ := l
  exact ⟨μ', fr', h', n', hf, hr, g.trans hg, Nat.le_trans hn hn', q⟩
/-- What an operation may turn of a frame: its slot, and what is deferred. -/
def Shape (ops : Array Oper) (j : Nat) (fr fr' : AAct) : Prop := ∃ ds u, fr' = ({ fr with defers := ds } : AAct).put ((ops[j]?).bind (·.dst)) u
def AOp (P : Program) (ops : Array Oper) (Q : APost) (j : Nat) (K : ANextK) (fr : AAct) (h : Heap) (n : Nat) : Prop :=
  ∀ μ a w, FRel μ fr a → Rel P μ h n w → wpOp P ops (lift P (fun x fr' h' n' => fr' = fr ∧ Q x fr' h' n') μ h n w) j (liftK P (fun fr' h' n' => Shape ops j fr fr' ∧ K fr' h' n') μ h n w) a w
theorem AOp.mono {P : Program} {ops : Array Oper} {Q : APost} {j : Nat} {K K' : ANextK} {fr : AAct} {h : Heap} {n : Nat} (o : AOp P ops Q j K fr h n)
    (hk : ∀ fr' h' n', n ≤ n' → (∀ b, n' ≤ b → h'.get b = none) → K fr' h' n' → K' fr' h' n') : AOp P ops Q j K' fr h n := by
  intro μ a w hf hr
  refine wpOp_mono ?_ (o μ a w hf hr)
  rintro a' w' ⟨μ', fr', h', n', hf', hr', hg, hn, s, k⟩
  exact ⟨μ', fr', h', n', hf', hr', hg, hn, s, hk fr' h' n' hn (fun b hb => hr'.below hb) k⟩
/-- An operation that reads alone: its value. -/
def CalmVal (P : Program) (o : Oper) (ρ : Operand → Value) (h : Heap) (v : Value) : Prop :=
  ∀ μ (ρ' : Operand → Value) n w, (∀ x ∈ o.op.operands, VRel μ (ρ x) (ρ' x)) → Rel P μ h n w → ∃ v', (execOp ρ' o).run P w = .ok (.value v') w ∧ VRel μ v v'
def okOper (G : Nat) (o : Oper) : Bool := o.op.operands.toList.all (okOperand G)
theorem okOper_rel {P : Program} {o : Oper} (h : okOper P.globals.size o = true) {μ : Mu} {fr : AAct} {a : Act} {hp : Heap} {n : Nat} {w : World} (hf : FRel μ fr a) (hr : Rel P μ hp n w) :
    ∀ x ∈ o.op.operands, VRel μ (fr.eval x) (a.eval x) := by
  intro x hx
  have := List.all_eq_true.1 h x (by simpa using hx)
  exact hf.eval hr this
/-- What a calm operation comes to, skipped or not. -/
def Calm (P : Program) (o : Oper) (wanted : Bool) (ρ : Operand → Value) (h : Heap) (v : Value) : Prop :=
  if wanted then okOper P.globals.size o = true ∧ CalmVal P o ρ h v else v = undef
theorem AOp.calm {P : Program} {ops : Array Oper} {Q : APost} {j : Nat} {o : Oper} {K : ANextK} {fr : AAct} {h : Heap} {n : Nat} {v : Value} (ho : ops[j]? = some o)
    (hc : Calm P o (wantedA ops o fr) fr.eval h v) (hk : K (fr.put o.dst v) h n) : AOp P ops Q j K fr h n := by
  intro μ a w hf hr
  unfold wpOp
  simp only [ho]
  rw [wanted_rel hf]
  unfold Calm at hc
  split
  · rename_i hw
    rw [if_pos hw] at hc
    obtain ⟨v', e, hv⟩ := hc.2 μ a.eval n w (okOper_rel hc.1 hf hr) hr
    refine .inl ?_
    simp only [Oper.wp, e, Oper.upon]
    exact ⟨μ, _, h, n, hf.put _ hv, hr, .refl _ _ _, Nat.le_refl _, ⟨fr.defers, v, by simp [ho]⟩, hk⟩
  · rename_i hw
    rw [if_neg hw] at hc
    subst hc
    exact ⟨μ, _, h, n, hf.put _ (undef_rel μ), hr, .refl _ _ _, Nat.le_refl _, ⟨fr.defers, undef, by simp [ho]⟩, hk⟩
/-- 'wpOps' in its post. -/
theorem wpOp_post {P : Program} {ops : Array Oper} {Q Q' : Exit → Act → World → Prop} (hq : ∀ e a w, Q e a w → Q' e a w) {K : Act → World → Prop} {j : Nat} {a : Act} {w : World} (h : wpOp P ops Q j K a w) : wpOp P ops Q' j K a w := by
  unfold wpOp at *
  split
  · rename_i e; simp only [e] at h; exact h
  · rename_i o e
    simp only [e] at h
    split
    · rename_i hw
      simp only [hw, if_true] at h
      refine h.imp (fun h => ?_) (fun h => ⟨h.1, let ⟨a, w, x⟩ := h.2; ⟨a, w, hq _ _ _ x⟩⟩)
      unfold Oper.wp at *
      generalize (execOp a.eval o).run P w = r at *
      cases r with
      | ok nx w' =>
        cases nx <;> simp only [Oper.upon] at h ⊢ <;> first
          | exact h
          | exact Calls.mono h (fun e w'' he => by
              cases e with
              | returned v => exact he
              | panicked c => exact hq _ _ _ he
              | outgrown => exact let ⟨a, w, x⟩ := he; ⟨a, w, hq _ _ _ x⟩)
      | halt x w' => cases x <;> simp only [Oper.upon] at h ⊢ <;> first | exact h | exact hq _ _ _ h
    · rename_i hw; simp only [hw] at h; exact h
theorem wpOps_post {P : Program} {ops : Array Oper} {Q Q' : Exit → Act → World → Prop} (hq : ∀ e a w, Q e a w → Q' e a w) : ∀ {l : List Nat} {a : Act} {w : World}, wpOps P ops Q l a w → wpOps P ops Q' l a w := by
  intro l
  induction l with
  | nil => intro a w h; exact hq _ _ _ h
  | cons i rest ih =>
    intro a w h
    rw [wpOps_cons] at *
    exact wpOp_post hq (wpOp_mono (fun a w => ih) h)
theorem lift_weak {P : Program} {S : AAct → Prop} {Q : APost} {μ : Mu} {h : Heap} {n : Nat} {w : World} (e : Exit) (a' : Act) (w' : World)
    (l : lift P (fun x fr' h' n' => S fr' ∧ Q x fr' h' n') μ h n w e a' w') : lift P Q μ h n w e a' w' := by
  obtain ⟨μ', x, fr', h', n', hx, hf, hr, hg, hn', _, q⟩ := l
  exact ⟨μ', x, fr', h', n', hx, hf, hr, hg, hn', q⟩
/-! A region whose order is the text's. -/
def AOps (P : Program) (ops : Array Oper) (Q : APost) : List Nat → ANextK
  | [], fr, h, n => Q .normal fr h n
  | i :: rest, fr, h, n => AOp P ops Q i (AOps P ops Q rest) fr h n
theorem AOps.sound {P : Program} {ops : Array Oper} {Q : APost} : ∀ (l : List Nat) (fr : AAct) (h : Heap) (n : Nat), AOps P ops Q l fr h n →
    ∀ μ a w, FRel μ fr a → Rel P μ h n w → wpOps P ops (lift P Q μ h n w) l a w := by
  intro l
  induction l with
  | nil => intro fr h n q μ a w hf hr; exact lift_now .normal hf hr q
  | cons i rest ih =>
    intro fr h n q μ a w hf hr
    rw [wpOps_cons]
    refine wpOp_mono ?_ (wpOp_post lift_weak (q μ a w hf hr))
    rintro a' w' ⟨μ', fr', h', n', hf', hr', hg, hn, _, k⟩
    refine wpOps_post ?_ (ih fr' h' n' k μ' a' w' hf' hr')
    exact fun e a w l => l.trans hg hn
theorem AWp.region {P : Program} {id : Nat} {ops : Array Oper} {Q : APost} {fr : AAct} {h : Heap} {n : Nat} (q : AOps P ops Q (List.range ops.size) fr h n) : AWp P (.region id ops false) Q fr h n :=
  fun μ a w hf hr => wp_region (AOps.sound _ _ _ _ q μ a w hf hr)
end Go.Abs
/- A region that draws its order. -/
namespace Go.Abs
open Go
/-- One operation stands directly behind another one. -/
def dep (ops : Array Oper) (j k : Nat) : Bool := match ops[j]? with
  | some o => o.after.any fun e => Region.binds .any e && e.on == k
  | none => false
/-- What must stay, as long as no operation that acts and stands behind it has been done. -/
abbrev Inv := List (Nat × (Heap → Prop))
def Inv.holds (act : Nat → Bool) (ops : Array Oper) (inv : Inv) (listed : Array Bool) (h : Heap) : Prop :=
  ∀ x ∈ inv, (∀ j, act j = true → listed.getD j false = true → dep ops j x.1 = false) → x.2 h
def AAny (P : Program) (act : Nat → Bool) (ops : Array Oper) (Q : APost) (inv : Inv) : Nat → Array Bool → ANextK
  | 0, listed, fr, h, n => Region.ready .any ops listed = [] ∧ Q .normal fr h n
  | f + 1, listed, fr, h, n => (Region.ready .any ops listed = [] → Q .normal fr h n) ∧
      ∀ i ∈ Region.ready .any ops listed, AOp P ops Q i (fun fr' h' n' => inv.holds act ops (listed.setIfInBounds i true) h' ∧ AAny P act ops Q inv f (listed.setIfInBounds i true) fr' h' n') fr h n
theorem wpAny_post {P : Program} {ops : Array Oper} {md : Region.Mode} {Q Q' : Exit → Act → World → Prop} (hq : ∀ e a w, Q e a w → Q' e a w) : ∀ {f : Nat} {listed : Array Bool} {a : Act} {w : World}, wpAny P md ops Q f listed a w → wpAny P md ops Q' f listed a w := by
  intro f
  induction f with
  | zero => intro listed a w h; exact ⟨h.1, hq _ _ _ h.2⟩
  | succ f ih =>
    intro listed a w h
    exact ⟨fun h0 => hq _ _ _ (h.1 h0), fun i hi => wpOp_post hq (wpOp_mono (fun a w => ih) (h.2 i hi))⟩
/-- An operation behind a slot that it does not look at: it may be done ahead. -/
theorem wpOp_shift {P : Program} {ops : Array Oper} {Q Q' : Exit → Act → World → Prop} {j : Nat} {oi oj : Oper} {v : Value} (hj : ops[j]? = some oj) (hap : oi.apart ops oj = true)
    (hsj : ∀ cs b, oj.op ≠ .select cs b) {K : Act → World → Prop} {a : Act} {w : World}
    (hQ : ∀ c w', Q (.panic c) (a.put oi.dst v) w' → Q' (.panic c) a w') (hout : ¬ LetsOut Q)
    (h : wpOp P ops Q j K (a.put oi.dst v) w) :
    wpOp P ops Q' j (fun a' w' => (∃ ds u, a' = ({ a with defers := ds } : Act).put oj.dst u) ∧ K (a'.put oi.dst v) w') a w := by
  obtain ⟨h1, h2, h3⟩ := Oper.apart_spec hap
  unfold wpOp at *
  simp only [hj] at *
  rw [wanted_put oj a oi.dst v h1] at h
  split
  · rename_i hw
    simp only [hw, if_true] at h
    rcases h with h | ⟨_, hlets⟩
    case inr => exact (hout hlets).elim
    refine .inl ?_
    unfold Oper.wp at *
    rw [execOp_put oj hsj a oi.dst v h1] at h
    generalize (execOp a.eval oj).run P w = r at *
    cases r with
    | ok nx w' =>
      cases nx <;> simp only [Oper.upon] at h ⊢
      case value u => exact ⟨⟨a.defers, u, rfl⟩, by rw [← Act.put_comm a v u h2]; exact h⟩
      case skip => exact ⟨⟨a.defers, undef, rfl⟩, by rw [← Act.put_comm a v undef h2]; exact h⟩
      case defer d =>
        refine ⟨⟨d :: a.defers, undef, rfl⟩, ?_⟩
        rw [← Act.put_comm _ v undef h2, ← Act.put_defers]
        exact h
      case enter f args =>
        refine Calls.mono h fun e w'' he => ?_
        cases e with
        | returned u => exact ⟨⟨a.defers, u, rfl⟩, by rw [← Act.put_comm a v u h2]; exact he⟩
        | panicked c => exact hQ _ _ he
        | outgrown => exact (hout he).elim
      case row row args => exact Rows.mono h fun u w'' he => ⟨⟨a.defers, u, rfl⟩, by rw [← Act.put_comm a v u h2]; exact he⟩
    | halt x w' =>
      cases x <;> simp only [Oper.upon] at h ⊢
      case panic u => exact hQ _ _ h
  · rename_i hw
    simp only [hw] at h
    exact ⟨⟨a.defers, undef, rfl⟩, by rw [← Act.put_comm a v undef h2]; exact h⟩
theorem lift_not_out {P : Program} {Q : APost} {μ : Mu} {h : Heap} {n : Nat} {w : World} : ¬ LetsOut (lift P Q μ h n w) := by
  rintro ⟨a, w', _, x, _, _, _, hx, _⟩
  cases hx
section
variable {P : Program} {act : Nat → Bool} {ops : Array Oper} {Q : APost}
theorem AAny.sound {inv : Inv} : ∀ (f : Nat) (listed : Array Bool) (fr : AAct) (h : Heap) (n : Nat), AAny P act ops Q inv f listed fr h n →
    ∀ μ a w, FRel μ fr a → Rel P μ h n w → wpAny P .any ops (lift P Q μ h n w) f listed a w := by
  intro f
  induction f with
  | zero => intro listed fr h n q μ a w hf hr; exact ⟨q.1, lift_now .normal hf hr q.2⟩
  | succ f ih =>
    intro listed fr h n q μ a w hf hr
    refine ⟨fun h0 => lift_now .normal hf hr (q.1 h0), fun i hi => ?_⟩
    refine wpOp_mono ?_ (wpOp_post lift_weak (q.2 i hi μ a w hf hr))
    rintro a' w' ⟨μ', fr', h', n', hf', hr', hg, hn, _, _, k⟩
    exact wpAny_post (fun e a w l => l.trans hg hn) (ih _ fr' h' n' k μ' a' w' hf' hr')
/-- A post that asks frames for what they read. -/
def Ext (Q : APost) : Prop := ∀ x fr fr' h n, fr.Eqv fr' → Q x fr h n → Q x fr' h n
theorem AOp.eqv {K : ANextK} (hQ : Ext Q) (hK : ∀ fr1 fr2 h n, fr1.Eqv fr2 → K fr1 h n → K fr2 h n) {j : Nat} {fr fr' : AAct} {h : Heap} {n : Nat} (e : fr.Eqv fr') (o : AOp P ops Q j K fr h n) : AOp P ops Q j K fr' h n := by
  intro μ a w hf hr
  refine wpOp_mono ?_ (wpOp_post ?_ (o μ a w (hf.eqv e.symm) hr))
  · rintro a' w' ⟨μ', fr1, h', n', hf', hr', hg, hn, ⟨ds, u, rfl⟩, k⟩
    have e' : (({ fr with defers := ds } : AAct).put ((ops[j]?).bind (·.dst)) u).Eqv (({ fr' with defers := ds } : AAct).put ((ops[j]?).bind (·.dst)) u) :=
      AAct.Eqv.put (a := { fr with defers := ds }) (b := { fr' with defers := ds }) ⟨e.size, rfl, e.get⟩ _ _
    exact ⟨μ', _, h', n', hf'.eqv e', hr', hg, hn, ⟨ds, u, rfl⟩, hK _ _ _ _ e' k⟩
  · rintro ex a' w' ⟨μ', x, fr1, h', n', hx, hf', hr', hg, hn, rfl, q⟩
    exact ⟨μ', x, fr', h', n', hx, hf'.eqv e, hr', hg, hn, rfl, hQ _ _ _ _ _ e q⟩
theorem AOp.mono2 {j : Nat} {K K' : ANextK} {fr : AAct} {h : Heap} {n : Nat} (o : AOp P ops Q j K fr h n)
    (hk : ∀ fr' h' n', Shape ops j fr fr' → K fr' h' n' → K' fr' h' n') : AOp P ops Q j K' fr h n := by
  intro μ a w hf hr
  refine wpOp_mono ?_ (o μ a w hf hr)
  rintro a' w' ⟨μ', fr', h', n', hf', hr', hg, hn, s, k⟩
  exact ⟨μ', fr', h', n', hf', hr', hg, hn, s, hk fr' h' n' s k⟩
theorem AAny.eqv {inv : Inv} (hQ : Ext Q) : ∀ {f : Nat} {listed : Array Bool} {fr fr' : AAct} {h : Heap} {n : Nat}, fr.Eqv fr' → AAny P act ops Q inv f listed fr h n → AAny P act ops Q inv f listed fr' h n := by
  intro f
  induction f with
  | zero => intro listed fr fr' h n e q; exact ⟨q.1, hQ _ _ _ _ _ e q.2⟩
  | succ f ih =>
    intro listed fr fr' h n e q
    exact ⟨fun h0 => hQ _ _ _ _ _ e (q.1 h0), fun i hi => (q.2 i hi).eqv hQ (fun fr1 fr2 h n e k => ⟨k.1, ih e k.2⟩) e⟩
theorem Calm.congr {o : Oper} {wt wt' : Bool} {ρ ρ' : Operand → Value} {h : Heap} {v : Value} (hw : wt' = wt) (hρ : ∀ x ∈ o.op.operands, ρ' x = ρ x) (c : Calm P o wt ρ h v) : Calm P o wt' ρ' h v := by
  subst hw
  unfold Calm at *
  split
  · rename_i hw
    rw [if_pos hw] at c
    refine ⟨c.1, fun μ ρ'' n w hr hR => c.2 μ ρ'' n w (fun x hx => ?_) hR⟩
    rw [← hρ x hx]; exact hr x hx
  · rename_i hw
    rw [if_neg hw] at c
    exact c
theorem eval_putA {fr : AAct} {dst : Option Tmp} {v : Value} {x : Operand} (h : ∀ d, dst = some d → x ≠ .tmp d) : (fr.put dst v).eval x = fr.eval x := by
  cases dst with
  | none => rfl
  | some d =>
    cases x with
    | tmp t =>
      have hne : t ≠ d := fun e => h d rfl (e ▸ rfl)
      simp [AAct.eval, AAct.get_put, hne]
    | _ => rfl
theorem operands_put {o : Oper} {fr : AAct} {dst : Option Tmp} {v : Value} (h : ∀ d, dst = some d → d ∉ o.looksAt ops) : ∀ x ∈ o.op.operands, (fr.put dst v).eval x = fr.eval x :=
  fun x hx => eval_putA fun d hd hxd => h d hd (by
    subst hxd
    exact List.mem_append_left _ (List.mem_filterMap.2 ⟨.tmp d, by simpa using hx, rfl⟩))
theorem wantedA_put {o : Oper} {fr : AAct} {dst : Option Tmp} {v : Value} (h : ∀ d, dst = some d → d ∉ o.looksAt ops) : wantedA ops o (fr.put dst v) = wantedA ops o fr := by
  cases dst with
  | none => rfl
  | some d =>
    unfold wantedA Region.wanted
    cases hg : o.guard with
    | none => rfl
    | some gw =>
      obtain ⟨g, want⟩ := gw
      have hy : yieldedA ops (fr.put (some d) v) g = yieldedA ops fr g := by
        unfold yieldedA
        cases ht : (ops[g]?).bind (·.dst) with
        | none => rfl
        | some t =>
          have hne : t ≠ d := fun e => h d rfl (by subst e; simp [Oper.looksAt, hg, ht])
          simp [AAct.get_put, hne]
      simp only [hy]
theorem calm_put {o : Oper} {fr : AAct} {dst : Option Tmp} {u v : Value} {h : Heap} (hd : ∀ d, dst = some d → d ∉ o.looksAt ops) (c : Calm P o (wantedA ops o fr) fr.eval h v) :
    Calm P o (wantedA ops o (fr.put dst u)) (fr.put dst u).eval h v :=
  c.congr (wantedA_put hd) (operands_put hd)
/-- An operation that reads alone has been done ahead of another one that does not look at it: it may be done behind it. -/
theorem AOp.behind {j : Nat} {oi oj : Oper} {v : Value} {K : ANextK} {fr : AAct} {h : Heap} {n : Nat} (hj : ops[j]? = some oj) (hap : oi.apart ops oj = true)
    (hsj : ∀ cs b, oj.op ≠ .select cs b)
    (hpan : ∀ x fr h n, Q (.pan x) (fr.put oi.dst v) h n → Q (.pan x) fr h n)
    (hc : Calm P oi (wantedA ops oi fr) fr.eval h v) (o : AOp P ops Q j K (fr.put oi.dst v) h n) :
    AOp P ops Q j (fun fr' h' n' => ∃ fr'', fr''.Eqv (fr'.put oi.dst v) ∧ K fr'' h' n') fr h n := by
  obtain ⟨h1, h2, h3⟩ := Oper.apart_spec hap
  intro μ a w hf hr
  obtain ⟨v', hv⟩ : ∃ v', VRel μ v v' := by
    unfold Calm at hc
    split at hc
    · obtain ⟨v', _, hv⟩ := hc.2 μ a.eval n w (okOper_rel hc.1 hf hr) hr
      exact ⟨v', hv⟩
    · subst hc; exact ⟨undef, undef_rel μ⟩
  have hw := o μ (a.put oi.dst v') w (hf.put _ hv) hr
  refine wpOp_mono ?_ (wpOp_shift (Q' := lift P (fun x fr' h' n' => fr' = fr ∧ Q x fr' h' n') μ h n w) hj hap hsj ?_ lift_not_out hw)
  · rintro a' w' ⟨⟨ds, u', rfl⟩, μ', fr', h', n', hf', hr', hg, hn, ⟨dsA, u, rfl⟩, k⟩
    simp only [hj, Option.bind_some] at hf' k
    refine ⟨μ', ({ fr with defers := dsA } : AAct).put oj.dst u, h', n', ?_, hr', hg, hn, ⟨dsA, u, by simp [hj]⟩, _, ?_, k⟩
    · have hf0 := hf.mono hg.le
      have hds : DsRel μ' dsA ds := by
        have := hf'.defers
        rw [AAct.defers_put] at this
        have e : ((({ a with defers := ds } : Act).put oj.dst u').put oi.dst v').defers = ds := by
          cases oi.dst <;> cases oj.dst <;> rfl
        rw [e] at this; exact this
      have hfd : FRel μ' ({ fr with defers := dsA } : AAct) ({ a with defers := ds } : Act) := ⟨hf0.size, hf0.get, hds⟩
      cases hd : oj.dst with
      | none => simpa [AAct.put, Act.put] using hfd
      | some d =>
        by_cases hlt : d < fr.size
        · refine hfd.put (some d) ?_
          have g := hf'.get d
          rw [hd] at g
          rw [AAct.get_put, if_pos ⟨rfl, by rw [show ({ fr.put oi.dst v with defers := dsA } : AAct).size = (fr.put oi.dst v).size from rfl, AAct.size_put]; exact hlt⟩] at g
          have hne : ∀ e, oi.dst = some e → e ≠ d := fun e he h => h2 e he (by rw [hd, h])
          have e1 : ((({ a with defers := ds } : Act).put (some d) u').put oi.dst v').tmps.getD d undef = u' := by
            have hs : d < a.tmps.size := by rw [hf.size]; exact hlt
            cases hi : oi.dst with
            | none => simp [Act.put, hs]
            | some e =>
              have := hne e hi
              simp [Act.put, hs, this]
          rw [e1] at g; exact g
        · have e1 : ({ fr with defers := dsA } : AAct).put (some d) u = ({ fr with defers := dsA } : AAct) := by simp [AAct.put, hlt]
          have e2 : ({ a with defers := ds } : Act).put (some d) u' = ({ a with defers := ds } : Act) := by
            have hle : a.tmps.size ≤ d := by rw [hf.size]; exact Nat.le_of_not_lt hlt
            simp only [Act.put]
            rw [Array.setIfInBounds_eq_of_size_le hle]
          rw [e1, e2]; exact hfd
    · have e : ({ fr.put oi.dst v with defers := dsA } : AAct) = ({ fr with defers := dsA } : AAct).put oi.dst v := by
        cases oi.dst with
        | none => rfl
        | some d => simp only [AAct.put]; split <;> rfl
      rw [e]
      exact AAct.put_comm _ _ _ h2
  · rintro c w' ⟨μ', x, fr', h', n', hx, _, hr', hg, hn, rfl, q⟩
    cases hx with
    | pan hv' => exact ⟨μ', _, fr, h', n', .pan hv', hf.mono hg.le, hr', hg, hn, rfl, hpan _ _ _ _ q⟩
/-- What has been done stands behind what it hangs on. -/
def Closed (ops : Array Oper) (listed : Array Bool) : Prop := ∀ j k, listed.getD j false = true → dep ops j k = true → listed.getD k false = true
theorem Closed.step {listed : Array Bool} (hc : Closed ops listed) {i : Nat} (hi : i ∈ Region.ready .any ops listed) : Closed ops (listed.setIfInBounds i true) := by
  intro j k hj hd
  by_cases e : i = j
  · subst e
    obtain ⟨_, o, ho, hall⟩ := mem_ready.1 hi
    simp only [dep, ho] at hd
    obtain ⟨e, he, hb⟩ := Array.any_eq_true'.1 hd
    simp only [Bool.and_eq_true, beq_iff_eq] at hb
    have := hall e he hb.1
    rw [hb.2] at this
    exact getD_set_true this
  · rw [getD_set_ne false e] at hj
    exact getD_set_true (hc j k hj hd)
theorem AAny.first {i : Nat} {oi : Oper} {v : Value} (hi : ops[i]? = some oi) (hsel : Region.noSelect ops = true) (hact : act i = false)
    (hpan : ∀ x fr h n, Q (.pan x) (fr.put oi.dst v) h n → Q (.pan x) fr h n) (hext : Ext Q) (inv : Inv) (Y : Heap → Prop) :
    ∀ (fuel : Nat) (listed : Array Bool) (fr : AAct) (h : Heap) (n : Nat),
      (∀ j oj, ops[j]? = some oj → j ≠ i → listed.getD j true = false → (∀ e ∈ oj.after, Region.binds .any e = true → e.on ≠ i) → oi.apart ops oj = true) →
      Closed ops listed → listed.getD i false = false →
      i ∈ Region.ready .any ops listed → (∀ h, Y h → Calm P oi (wantedA ops oi fr) fr.eval h v) → Y h → inv.holds act ops listed h →
      AAny P act ops Q ((i, Y) :: inv) fuel (listed.setIfInBounds i true) (fr.put oi.dst v) h n → AAny P act ops Q inv (fuel + 1) listed fr h n := by
  have weak : ∀ (fuel : Nat) (listed : Array Bool) (fr : AAct) (h : Heap) (n : Nat), AAny P act ops Q ((i, Y) :: inv) fuel listed fr h n → AAny P act ops Q inv fuel listed fr h n := by
    intro fuel
    induction fuel with
    | zero => intro listed fr h n H; exact H
    | succ f ih =>
      intro listed fr h n H
      exact ⟨H.1, fun j hj => (H.2 j hj).mono fun fr' h' n' _ _ k => ⟨fun x hx => k.1 x (List.mem_cons_of_mem _ hx), ih _ _ _ _ k.2⟩⟩
  have hsize : ∀ {listed : Array Bool}, i ∈ Region.ready .any ops listed → i < listed.size := by
    intro listed hr
    have h0 := (mem_ready.1 hr).1
    rcases Nat.lt_or_ge i listed.size with h | h
    · exact h
    · rw [Array.getD_eq_getD_getElem?, Array.getElem?_eq_none h] at h0; simp at h0
  have invI : ∀ {listed : Array Bool} {h : Heap}, inv.holds act ops listed h → inv.holds act ops (listed.setIfInBounds i true) h := by
    intro listed h hv x hx hall
    refine hv x hx fun j hj hl => hall j hj (getD_set_true hl)
  intro fuel
  induction fuel with
  | zero =>
    intro listed fr h n hap hcl hli hr hy hY hinv H
    have hone : ∀ j ∈ Region.ready .any ops listed, j = i := by
      intro j hj
      rcases Nat.decEq j i with e | e
      · have := ready_mono hj e
        rw [H.1] at this; simp at this
      · exact e
    refine ⟨fun h0 => by rw [h0] at hr; simp at hr, fun j hj => ?_⟩
    rw [hone j hj]
    exact AOp.calm hi (hy h hY) ⟨invI hinv, weak 0 _ _ _ _ H⟩
  | succ f ih =>
    intro listed fr h n hap hcl hli hr hy hY hinv H
    refine ⟨fun h0 => by rw [h0] at hr; simp at hr, fun j hj => ?_⟩
    rcases Nat.decEq j i with hne | rfl
    · have hjr := ready_mono hj hne
      obtain ⟨hl0, oj, hoj, hall⟩ := mem_ready.1 hj
      have hnodep : ∀ e ∈ oj.after, Region.binds .any e = true → e.on ≠ i := by
        intro e he hb hei
        have := hall e he hb
        rw [hei, hli] at this; cases this
      have hapart := hap j oj hoj hne hl0 hnodep
      have hsj := Region.noSelect_spec hsel j
      have ho := H.2 j hjr
      refine (ho.behind hoj hapart (fun cs b => hsj oj cs b hoj) hpan (hy h hY)).mono2 ?_
      rintro fr' h' n' hshape ⟨fr'', heq, kinv, kany⟩
      obtain ⟨ds, u, rfl⟩ := hshape
      simp only [hoj, Option.bind_some] at heq ⊢
      obtain ⟨a1, a2, a3⟩ := Oper.apart_spec hapart
      have hcomm : (listed.setIfInBounds i true).setIfInBounds j true = (listed.setIfInBounds j true).setIfInBounds i true := Array.setIfInBounds_comm _ _ (Ne.symm hne)
      rw [hcomm] at kinv kany
      have hactcond : ∀ {k : Nat}, (∀ j', act j' = true → (listed.setIfInBounds j true).getD j' false = true → dep ops j' k = false) →
          ∀ j', act j' = true → ((listed.setIfInBounds j true).setIfInBounds i true).getD j' false = true → dep ops j' k = false := by
        intro k hk j' ha hl
        by_cases e : i = j'
        · subst e; rw [hact] at ha; cases ha
        · rw [getD_set_ne false e] at hl; exact hk j' ha hl
      have hY' : Y h' := by
        refine kinv (i, Y) (List.mem_cons_self) (hactcond ?_)
        intro j' ha hl
        cases hd : dep ops j' i with
        | false => rfl
        | true =>
          have hcl' := (hcl.step hj) j' i hl hd
          rw [getD_set_ne false hne] at hcl'
          rw [hli] at hcl'; cases hcl'
      have hinv' : inv.holds act ops (listed.setIfInBounds j true) h' := by
        intro x hx hall'
        exact kinv x (List.mem_cons_of_mem _ hx) (hactcond hall')
      refine ⟨hinv', ?_⟩
      refine ih (listed.setIfInBounds j true) _ h' n' ?_ (hcl.step hj) ?_ ?_ ?_ hY' hinv' (kany.eqv hext heq)
      · intro k ok hk hki hl hno
        refine hap k ok hk hki ?_ hno
        by_cases e : j = k
        · subst e
          have hjs : j < listed.size := by
            rcases Nat.lt_or_ge j listed.size with h | h
            · exact h
            · rw [Array.getD_eq_getD_getElem?, Array.getElem?_eq_none h] at hl0; simp at hl0
          rw [Array.getD_eq_getD_getElem?, Array.getElem?_setIfInBounds_self_of_lt hjs] at hl
          simp at hl
        · rw [getD_set_ne true e] at hl; exact hl
      · rw [getD_set_ne false hne]; exact hli
      · exact ready_mono hr (Ne.symm hne)
      · intro h0 hY0
        have hc := hy h0 hY0
        have e : ({ fr with defers := ds } : AAct).put oj.dst u = ({ fr.put oj.dst u with defers := ds } : AAct) := by
          cases oj.dst with
          | none => rfl
          | some d => simp only [AAct.put]; split <;> rfl
        rw [e]
        have hc2 := calm_put (ops := ops) (u := u) (dst := oj.dst) a3 hc
        exact hc2.congr rfl (fun x _ => rfl)
    · exact AOp.calm hi (hy h hY) ⟨invI hinv, weak _ _ _ _ _ H⟩
end
end Go.Abs
/- Operations that read no memory: their values, by computing. -/
namespace Go.Abs
open Go
/-! What asks nothing of the world. -/
def pureRun {α : Type} (P : Program) : Sem α → Option α
  | .pure a => some a
  | .program k => pureRun P (k P)
  | .mark _ k => pureRun P k
  | _ => none
theorem pureRun_run {α : Type} {P : Program} : ∀ (s : Sem α) {a : α} (w : World), pureRun P s = some a → s.run P w = .ok a w := by
  intro s
  induction s with
  | pure a => intro b w h; simp only [pureRun, Option.some.injEq] at h; subst h; rfl
  | program k ih => intro b w h; simp only [pureRun] at h; exact ih P w h
  | mark m k ih => intro b w h; simp only [pureRun] at h; exact ih w h
  | _ => intro b w h; simp [pureRun] at h
/-- Two strings, byte by byte. -/
def eqS (a b : ByteArray) : Bool := a.data.toList == b.data.toList
def lessS (a b : ByteArray) : Bool := Op.bytesLess a.data.toList b.data.toList
def intE (op : BinOp) (k : IntKind) (a b : Int) : Option Value :=
  match op with
  | .add => some (.int k (k.wrap (a + b)))
  | .sub => some (.int k (k.wrap (a - b)))
  | .mul => some (.int k (k.wrap (a * b)))
  | .quo => if b = 0 then none else some (.int k (k.wrap (a.tdiv b)))
  | .rem => if b = 0 then none else some (.int k (a.tmod b))
  | .and => some (.int k (k.wrap ((BitVec.ofInt k.bits a &&& BitVec.ofInt k.bits b).toNat)))
  | .or => some (.int k (k.wrap ((BitVec.ofInt k.bits a ||| BitVec.ofInt k.bits b).toNat)))
  | .xor => some (.int k (k.wrap ((BitVec.ofInt k.bits a ^^^ BitVec.ofInt k.bits b).toNat)))
  | .andNot => some (.int k (k.wrap ((BitVec.ofInt k.bits a &&& ~~~BitVec.ofInt k.bits b).toNat)))
  | .shl | .shr => none
  | .eql => some (.bool (decide (a = b)))
  | .neq => some (.bool (!decide (a = b)))
  | .lss => some (.bool (decide (a < b)))
  | .leq => some (.bool (decide (a ≤ b)))
  | .gtr => some (.bool (decide (b < a)))
  | .geq => some (.bool (decide (b ≤ a)))
def strE (op : BinOp) (a b : ByteArray) : Option Value :=
  match op with
  | .add => if a.size + b.size < 9223372036854775808 then some (.string (a ++ b)) else none
  | .eql => some (.bool (eqS a b))
  | .neq => some (.bool (!eqS a b))
  | .lss => some (.bool (lessS a b))
  | .leq => some (.bool (lessS a b || eqS a b))
  | .gtr => some (.bool (!(lessS a b || eqS a b)))
  | .geq => some (.bool (!lessS a b))
  | _ => none
/-- '==' where one side is nil, or both are places of one block. -/
def eqNilE (P : Program) (t : TypeId) (x y : Value) : Option Bool :=
  match P.underlying t, x, y with
  | some (.pointer _), .pointer none, .pointer b => some b.isNone
  | some (.pointer _), .pointer (some _), .pointer none => some false
  | some (.pointer e), .pointer (some ⟨b, o, none⟩), .pointer (some ⟨b', o', none⟩) =>
    match P.info? e with
    | some i => if i.size = 0 then none else if b = b' then some (decide (o = o')) else none
    | none => none
  | some (.slice _), .slice none _ _, .slice b _ _ => some b.isNone
  | some (.slice _), .slice (some _) _ _, .slice none _ _ => some false
  | some (.map _ _), .map none, .map b => some b.isNone
  | some (.map _ _), .map (some _), .map none => some false
  | some (.func _ _ _), .nilFunc, .func _ _ _ => some false
  | some (.func _ _ _), .func _ _ _, .nilFunc => some false
  | some (.interface _), .nilIface, .iface _ _ => some false
  | some (.interface _), .iface _ _, .nilIface => some false
  | _, _, _ => none
def isConst : Operand → Bool
  | .const _ => true
  | _ => false
/-- '==' of two values without an address. -/
def eqFlatE (P : Program) (op : BinOp) (t : TypeId) (cx cy : Bool) (x y : Value) : Option Bool :=
  if flat x && flat y then
    match pureRun P (do eqGuard op t (if cx then .const x else .tmp 0) (if cy then .const y else .tmp 0) x y; Op.equal t x y) with
    | some b => some b
    | none => none
  else none
def eqE (P : Program) (op : BinOp) (t : TypeId) (cx cy : Bool) (x y : Value) : Option Bool :=
  match eqNilE P t x y with
  | some b => some b
  | none => eqFlatE P op t cx cy x y
def binE (P : Program) (op : BinOp) (t : TypeId) (cx cy : Bool) (x y : Value) : Option Value :=
  match x, y with
  | .int k a, .int k' b =>
    match op with
    | .shl => if b < 0 then none else some (.int k (k.wrap (a * 2 ^ (min b.toNat k.bits))))
    | .shr => if b < 0 then none else some (.int k (a.fdiv (2 ^ (min b.toNat k.bits))))
    | op => if k = k' then intE op k a b else none
  | .string a, .string b => strE op a b
  | x, y =>
    match op with
    | .eql => (eqE P .eql t cx cy x y).map .bool
    | .neq => (eqE P .neq t cx cy x y).map fun b => .bool (!b)
    | _ => none
theorem run_binOp_int {P : Program} (op : BinOp) (t : TypeId) (k k' : IntKind) (a b : Int) (x y : Operand) (w : World) {v : Value} (e : (match op with
    | .shl => if b < 0 then none else some (.int k (k.wrap (a * 2 ^ (min b.toNat k.bits))))
    | .shr => if b < 0 then none else some (.int k (a.fdiv (2 ^ (min b.toNat k.bits))))
    | op => if k = k' then intE op k a b else none) = some v) :
    (do eqGuard op t x y (.int k a) (.int k' b); binOp op t (.int k a) (.int k' b)).run P w = .ok v w := by
  have hg : (eqGuard op t x y (.int k a) (.int k' b)).run P w = .ok () w := by
    unfold eqGuard
    split <;> rfl
  rw [Sem.run_bind, hg]
  simp only [Result.andThen_ok]
  by_cases hk : k = k'
  · subst hk
    cases op <;> simp only [if_true, intE] at e <;> (try split at e) <;> (first | (cases e; done) | skip) <;> (try (cases e)) <;>
      simp_all [binOp, Op.intArith, Op.intDiv, Op.intBits, Op.intCmp, Op.shift, bne] <;> first | rfl | (intro h; omega)
  · cases op <;> simp only [if_neg hk] at e <;> (try split at e) <;> (first | (cases e; done) | skip) <;> (try (cases e)) <;>
      simp_all [binOp, Op.shift] <;> (intro h; omega)
theorem eqS_eq (a b : ByteArray) : (a.toList == b.toList) = eqS a b := by unfold eqS; rw [ByteArray.toList_eq, ByteArray.toList_eq]
theorem lessS_eq (a b : ByteArray) : Op.bytesLess a.toList b.toList = lessS a b := by unfold lessS; rw [ByteArray.toList_eq, ByteArray.toList_eq]
theorem eqGuard_plain {P : Program} {op : BinOp} {t : TypeId} {x y : Operand} {a b : Value} (h1 : ¬ (a = .nilIface ∧ b = .nilIface)) (h2 : ∀ c d, ¬ (a = .agg c ∧ b = .agg d)) (w : World) :
    (eqGuard op t x y a b).run P w = .ok () w := by
  unfold eqGuard
  cases op <;> first
    | (simp only [Bool.not_false, if_true]; rfl)
    | (simp only [Bool.not_true, Bool.false_eq_true, if_false]
       split
       · exact (h1 ⟨rfl, rfl⟩).elim
       · exact (h2 _ _ ⟨rfl, rfl⟩).elim
       · rfl)
theorem run_binOp_str {P : Program} (op : BinOp) (t : TypeId) (a b : ByteArray) (x y : Operand) (w : World) {v : Value} (e : strE op a b = some v) :
    (do eqGuard op t x y (.string a) (.string b); binOp op t (.string a) (.string b)).run P w = .ok v w := by
  rw [Sem.run_bind, eqGuard_plain (by simp) (by simp)]
  simp only [Result.andThen_ok]
  cases op <;> simp only [strE] at e <;> (try split at e) <;> (first | (cases e; done) | skip) <;> (try (cases e)) <;>
    simp only [binOp, Op.stringOp, eqS_eq, lessS_eq] <;> (try rfl)
  rename_i h
  rw [if_neg]
  · rfl
  · simp [IntKind.max, IntKind.signed, IntKind.bits]; omega
theorem run_equal_nil {P : Program} {μ : Mu} {t : TypeId} {x y x' y' : Value} (hx : VRel μ x x') (hy : VRel μ y y') {b : Bool} (e : eqNilE P t x y = some b) (w : World) :
    (Op.equal t x' y').run P w = .ok b w := by
  unfold Op.equal
  obtain ⟨d, hd⟩ : ∃ d, Op.maxDepth = d + 1 := ⟨9999, rfl⟩
  rw [hd]
  clear hd
  unfold eqNilE at e
  split at e <;> (try (cases e; done))
  all_goals (try (simp only [Option.some.injEq] at e; subst e))
  all_goals rename_i hu
  · cases hx <;> cases hy <;> simp [Op.equalIn, run_underlying_of hu]
  · cases hx <;> cases hy <;> simp [Op.equalIn, run_underlying_of hu]
  · split at e
    · rename_i i hi
      split at e
      · cases e
      · rename_i hs
        split at e
        · rename_i hbb
          subst hbb
          simp only [Option.some.injEq] at e; subst e
          cases hx with
          | ptr o hm =>
            cases hy with
            | ptr o' hm' =>
              rw [hm] at hm'; cases hm'
              rename_i m
              simp only [Op.equalIn, Sem.run_bind, run_underlying_of hu, Result.andThen_ok, run_sizeOf_of hi, ne_eq, hs, not_false_eq_true, if_true]
              simp only [sameAddr, beq_self_eq_true, if_true, Sem.run_pure]
              congr 1
              rw [Bool.eq_iff_iff]
              simp
        · cases e
    · cases e
  · cases hx <;> cases hy <;> simp [Op.equalIn, run_underlying_of hu]
  · cases hx <;> cases hy <;> simp [Op.equalIn, run_underlying_of hu]
  · cases hx <;> cases hy <;> simp [Op.equalIn, run_underlying_of hu]
  · cases hx <;> cases hy <;> simp [Op.equalIn, run_underlying_of hu]
  · cases hx <;> cases hy <;> simp [Op.equalIn, run_underlying_of hu]
  · cases hx <;> cases hy <;> simp [Op.equalIn, run_underlying_of hu]
  · cases hx <;> cases hy <;> simp [Op.equalIn, run_underlying_of hu]
  · cases hx <;> cases hy <;> simp [Op.equalIn, run_underlying_of hu]
theorem pureRun_bind_fst {α β : Type} {P : Program} {s : Sem α} {f : α → Sem β} {b : β} (e : pureRun P (s >>= f) = some b) (w : World) : ∃ a, s.run P w = .ok a w := by
  change pureRun P (s.bind f) = some b at e
  induction s with
  | pure a => exact ⟨a, rfl⟩
  | program k ih => simp only [Sem.bind, pureRun] at e; exact ih P e
  | mark m k ih => simp only [Sem.bind, pureRun] at e; exact ih e
  | _ => simp [Sem.bind, pureRun] at e
theorem binOp_eql {μ : Mu} {t : TypeId} {x y x' y' : Value} (hx : VRel μ x x') (hy : VRel μ y y') (h1 : ∀ k a k' b, x = .int k a → y = .int k' b → False) (h2 : ∀ a b, x = .string a → y = .string b → False) :
    binOp .eql t x' y' = (do pure (.bool (← Op.equal t x' y'))) := by
  cases hx <;> cases hy <;> first | rfl | exact (h1 _ _ _ _ rfl rfl).elim | exact (h2 _ _ rfl rfl).elim
def canon (x : Operand) : Operand := if isConst x then .const undef else .tmp 0
theorem eqGuard_canon {op : BinOp} {t : TypeId} (x y : Operand) (a b : Value) : eqGuard op t x y a b = eqGuard op t (canon x) (canon y) a b := by
  cases x <;> cases y <;> rfl
theorem binOp_neq {μ : Mu} {t : TypeId} {x y x' y' : Value} (hx : VRel μ x x') (hy : VRel μ y y') (h1 : ∀ k a k' b, x = .int k a → y = .int k' b → False) (h2 : ∀ a b, x = .string a → y = .string b → False) :
    binOp .neq t x' y' = (do pure (.bool (!(← Op.equal t x' y')))) := by
  cases hx <;> cases hy <;> first | rfl | exact (h1 _ _ _ _ rfl rfl).elim | exact (h2 _ _ rfl rfl).elim
theorem eqGuard_congr {P : Program} {op : BinOp} {t : TypeId} {x y x' y' : Operand} (hx : isConst x = isConst x') (hy : isConst y = isConst y') (a b : Value) (w : World) :
    (eqGuard op t x y a b).run P w = (eqGuard op t x' y' a b).run P w := by
  rw [eqGuard_canon x y, eqGuard_canon x' y']
  unfold canon
  rw [hx, hy]
theorem isConst_canon (x : Operand) (v : Value) : isConst x = isConst (if isConst x then .const v else .tmp 0) := by cases x <;> rfl
/-- A test of two values, one of which may be nil. -/
theorem run_eqE {P : Program} {μ : Mu} {op : BinOp} {t : TypeId} {ox oy : Operand} {x y x' y' : Value} (hx : VRel μ x x') (hy : VRel μ y y') {b : Bool}
    (e : eqE P op t (isConst ox) (isConst oy) x y = some b) (w : World) :
    (eqGuard op t ox oy x' y').run P w = .ok () w ∧ (Op.equal t x' y').run P w = .ok b w := by
  unfold eqE at e
  split at e
  · rename_i b0 e0
    simp only [Option.some.injEq] at e; subst e
    refine ⟨?_, run_equal_nil hx hy e0 w⟩
    unfold eqNilE at e0
    apply eqGuard_plain
    · rintro ⟨rfl, rfl⟩; cases hx; cases hy; split at e0 <;> simp_all
    · rintro c d ⟨rfl, rfl⟩; cases hx; cases hy; split at e0 <;> simp_all
  · unfold eqFlatE at e
    split at e
    · rename_i hf
      simp only [Bool.and_eq_true] at hf
      rw [hx.flat_eq hf.1, hy.flat_eq hf.2]
      split at e
      · rename_i b0 e0
        simp only [Option.some.injEq] at e; subst e
        have h := pureRun_run _ w e0
        obtain ⟨u', h2⟩ := pureRun_bind_fst e0 w
        rw [← eqGuard_congr (isConst_canon ox x) (isConst_canon oy y)] at h2
        rw [Sem.run_bind, ← eqGuard_congr (isConst_canon ox x) (isConst_canon oy y), h2] at h
        exact ⟨h2, h⟩
      · cases e
    · cases e
theorem run_binE {P : Program} {μ : Mu} {op : BinOp} {t : TypeId} {ox oy : Operand} {x y x' y' v : Value} (hx : VRel μ x x') (hy : VRel μ y y')
    (e : binE P op t (isConst ox) (isConst oy) x y = some v) (w : World) :
    (do eqGuard op t ox oy x' y'; binOp op t x' y').run P w = .ok v w ∧ VRel μ v v := by
  unfold binE at e
  split at e
  · rename_i k a k' b
    cases hx; cases hy
    refine ⟨run_binOp_int op t k k' a b ox oy w e, ?_⟩
    have : flat v = true := by
      cases op <;> (try simp only [intE] at e) <;> (repeat' split at e) <;> (try (cases e)) <;> rfl
    exact .flat_self this
  · rename_i a b
    cases hx; cases hy
    refine ⟨run_binOp_str op t a b ox oy w e, ?_⟩
    have : flat v = true := by
      cases op <;> simp only [strE] at e <;> (repeat' split at e) <;> (try (cases e)) <;> rfl
    exact .flat_self this
  · rename_i h1 h2
    split at e
    · simp only [Option.map_eq_some_iff] at e
      obtain ⟨b, e, rfl⟩ := e
      obtain ⟨q1, q2⟩ := run_eqE hx hy e w
      refine ⟨?_, .bool b⟩
      rw [Sem.run_bind, q1]
      simp only [Result.andThen_ok]
      rw [binOp_eql hx hy h1 h2, Sem.run_bind, q2]
      rfl
    · simp only [Option.map_eq_some_iff] at e
      obtain ⟨b, e, rfl⟩ := e
      obtain ⟨q1, q2⟩ := run_eqE hx hy e w
      refine ⟨?_, .bool _⟩
      rw [Sem.run_bind, q1]
      simp only [Result.andThen_ok]
      rw [binOp_neq hx hy h1 h2, Sem.run_bind, q2]
      rfl
    · cases e
end Go.Abs
/- Operations that read no memory, all of them. -/
namespace Go.Abs
open Go
/-- Of values without an address: the model's own text, run. -/
def flatRun (P : Program) (s : Sem Value) : Option Value :=
  match pureRun P s with
  | some v => if flat v then some v else none
  | none => none
theorem flatRun_sound {P : Program} {s : Sem Value} {v : Value} (e : flatRun P s = some v) (μ : Mu) (w : World) : s.run P w = .ok v w ∧ VRel μ v v := by
  unfold flatRun at e
  split at e
  · rename_i v0 e0
    split at e
    · rename_i hf
      cases e
      exact ⟨pureRun_run _ w e0, .flat_self hf⟩
    · cases e
  · cases e
def sliceS (s : ByteArray) (l h : Nat) : ByteArray := ⟨((s.data.toList.drop l).take (h - l)).toArray⟩
theorem sliceS_eq (s : ByteArray) (l h : Nat) : s.extract l h = sliceS s l h := by
  unfold sliceS
  apply ByteArray.ext
  apply Array.ext'
  rw [ByteArray.data_extract]
  simp [Array.toList_extract, List.extract_eq_take_drop]
/-- A struct or an array out of its parts. -/
def fillE (place : Nat → Option (Nat × Nat)) : List Value → List (Nat × Value) → Option (List Value)
  | cells, [] => some cells
  | cells, (i, v) :: rest =>
    match place i with
    | none => none
    | some (off, size) => if v.cells.toList.length = size ∧ off + size ≤ cells.length then fillE place (setAll cells off v.cells.toList) rest else none
theorem setAll_foldl : ∀ (xs : List Value) (k : Nat) (cs : Array Value) (off : Nat),
    ((xs.zipIdx k).foldl (fun cs (x : Value × Nat) => cs.setIfInBounds (off + x.2) x.1) cs).toList = setAll cs.toList (off + k) xs := by
  intro xs
  induction xs with
  | nil => intros; rfl
  | cons x xs ih =>
    intro k cs off
    simp only [List.zipIdx_cons, List.foldl_cons, setAll]
    rw [ih]
    simp [Nat.add_assoc]
/-- Lists of values, place by place. -/
inductive LRel (μ : Mu) : List Value → List Value → Prop
  | nil : LRel μ [] []
  | cons {x y : Value} {xs ys : List Value} (h : VRel μ x y) (t : LRel μ xs ys) : LRel μ (x :: xs) (y :: ys)
theorem LRel.length {μ : Mu} {xs ys : List Value} (h : LRel μ xs ys) : ys.length = xs.length := by
  induction h with
  | nil => rfl
  | cons _ _ ih => simp [ih]
theorem LRel.get {μ : Mu} {xs ys : List Value} (h : LRel μ xs ys) : ∀ {i : Nat} {x : Value}, xs[i]? = some x → ∃ y, ys[i]? = some y ∧ VRel μ x y := by
  induction h with
  | nil => intro i x e; simp at e
  | cons hx _ ih =>
    intro i x e
    cases i with
    | zero => simp at e; subst e; exact ⟨_, by simp, hx⟩
    | succ i => simpa using ih (by simpa using e)
theorem LRel.of_get {μ : Mu} : ∀ {xs ys : List Value}, xs.length = ys.length → (∀ (i : Nat) (x y : Value), xs[i]? = some x → ys[i]? = some y → VRel μ x y) → LRel μ xs ys := by
  intro xs
  induction xs with
  | nil => intro ys hl _; cases ys with
    | nil => exact .nil
    | cons y ys => simp at hl
  | cons x xs ih =>
    intro ys hl h
    cases ys with
    | nil => simp at hl
    | cons y ys => exact .cons (h 0 x y (by simp) (by simp)) (ih (by simpa using hl) fun i a b ha hb => h (i + 1) a b (by simpa using ha) (by simpa using hb))
theorem LRel.arr {μ : Mu} {xs ys : List Value} (h : LRel μ xs ys) : ARel μ xs.toArray ys.toArray :=
  ⟨by simp [h.length], fun i a b ha hb => by
    simp only [List.getElem?_toArray] at ha hb
    obtain ⟨y, e, r⟩ := h.get ha
    rw [e] at hb; cases hb; exact r⟩
theorem ARel.list {μ : Mu} {xs ys : Array Value} (h : ARel μ xs ys) : LRel μ xs.toList ys.toList :=
  .of_get (by simpa using h.1) fun i a b ha hb => h.2 i a b (by simpa using ha) (by simpa using hb)
theorem LRel.set {μ : Mu} {xs ys : List Value} (h : LRel μ xs ys) {x y : Value} (hx : VRel μ x y) : ∀ i : Nat, LRel μ (xs.set i x) (ys.set i y) := by
  induction h with
  | nil => intro i; exact .nil
  | cons h0 t ih =>
    intro i
    cases i with
    | zero => exact .cons hx t
    | succ i => exact .cons h0 (ih i)
theorem LRel.setAll {μ : Mu} {us vs : List Value} (hu : LRel μ us vs) : ∀ {xs ys : List Value} (o : Nat), LRel μ xs ys → LRel μ (setAll xs o us) (setAll ys o vs) := by
  induction hu with
  | nil => intro xs ys o h; exact h
  | cons hx _ ih => intro xs ys o h; exact ih (o + 1) (h.set hx o)
theorem LRel.append {μ : Mu} {a b c d : List Value} (h : LRel μ a b) (k : LRel μ c d) : LRel μ (a ++ c) (b ++ d) := by
  induction h with
  | nil => exact k
  | cons hx _ ih => exact .cons hx ih
theorem LRel.mono {μ μ' : Mu} (h : μ.le μ') {a b : List Value} (k : LRel μ a b) : LRel μ' a b := by
  induction k with
  | nil => exact .nil
  | cons hx _ ih => exact .cons (hx.mono h) ih
theorem LRel.flat {μ : Mu} : ∀ {a : List Value}, (a.all Abs.flat) = true → LRel μ a a := by
  intro a
  induction a with
  | nil => intro _; exact .nil
  | cons x xs ih => intro h; simp only [List.all_cons, Bool.and_eq_true] at h; exact .cons (.flat_self h.1) (ih h.2)
/-- Parts with their places. -/
inductive PRel (μ : Mu) : List (Nat × Value) → List (Nat × Value) → Prop
  | nil : PRel μ [] []
  | cons {i : Nat} {x y : Value} {xs ys : List (Nat × Value)} (h : VRel μ x y) (t : PRel μ xs ys) : PRel μ ((i, x) :: xs) ((i, y) :: ys)
theorem fillE_sound {μ : Mu} {place : Nat → Option (Nat × Nat)} : ∀ {ps ps' : List (Nat × Value)} {cells cells' : List Value} {r : List Value}, PRel μ ps ps' → LRel μ cells cells' →
    fillE place cells ps = some r → ∃ r', Instr.fill place cells'.toArray ps' = some r'.toArray ∧ LRel μ r r' := by
  intro ps
  induction ps with
  | nil =>
    intro ps' cells cells' r hp hc e
    cases hp
    simp only [fillE, Option.some.injEq] at e
    subst e
    exact ⟨cells', rfl, hc⟩
  | cons p ps ih =>
    intro ps' cells cells' r hp hc e
    cases hp with
    | cons hx ht =>
      rename_i i x y ys
      simp only [fillE] at e
      split at e
      · cases e
      · rename_i off size hpl
        split at e
        · rename_i hcond
          have hcx := hx.cells.list
          obtain ⟨r', e1, e2⟩ := ih ht (hcx.setAll off hc) e
          refine ⟨r', ?_, e2⟩
          simp only [Instr.fill, hpl]
          have hs : y.cells.size = size := by
            have := hcx.length
            simp only [Array.length_toList] at this hcond
            omega
          have hle : off + y.cells.size ≤ cells'.toArray.size := by
            have := hc.length
            simp only [List.size_toArray]
            omega
          rw [if_neg (by simp only [hs, ne_eq, not_true_eq_false, decide_false, Bool.false_or, decide_eq_true_eq]; omega)]
          rw [← e1]
          congr 1
          apply Array.ext'
          rw [← Array.foldl_toList, Array.toList_zipIdx]
          have := setAll_foldl y.cells.toList 0 cells'.toArray off
          simpa using this
        · cases e
theorem PRel.of_map {μ : Mu} {ρ ρ' : Operand → Value} : ∀ (ps : List (Nat × Operand)), (∀ x ∈ ps.map (·.2), VRel μ (ρ x) (ρ' x)) → PRel μ (ps.map fun p => (p.1, ρ p.2)) (ps.map fun p => (p.1, ρ' p.2)) := by
  intro ps
  induction ps with
  | nil => intro _; exact .nil
  | cons p ps ih => intro h; exact .cons (h p.2 (by simp)) (ih fun x hx => h x (by simp at hx ⊢; exact .inr hx))
/-- The places of a struct's fields. -/
def placesE (P : Program) : List Field → Option (List (Nat × Nat))
  | [] => some []
  | f :: fs => match P.info? f.type, placesE P fs with
    | some i, some r => some ((f.offset, i.size) :: r)
    | _, _ => none
theorem placesE_sound {P : Program} (w : World) : ∀ {fs : List Field} {r : List (Nat × Nat)}, placesE P fs = some r →
    (fs.mapM (m := Sem) fun f => do pure (f.offset, ← Go.sizeOf f.type)).run P w = .ok r w := by
  intro fs
  induction fs with
  | nil => intro r e; simp only [placesE, Option.some.injEq] at e; subst e; rfl
  | cons f fs ih =>
    intro r e
    simp only [placesE] at e
    split at e
    · rename_i i r0 hi hr
      simp only [Option.some.injEq] at e; subst e
      have := ih hr
      simp only [List.mapM_cons, Sem.run_bind, run_sizeOf_of hi, Result.andThen_ok, Sem.run_pure]
      rw [this]
      rfl
    · cases e
def buildE (P : Program) (t : TypeId) (parts : List (Nat × Value)) : Option Value :=
  match P.info? t, P.underlying t with
  | some i, some (.struct fields) =>
    match i.zero, placesE P fields.toList with
    | some z, some pl => if z.cells.toList.all flat then (fillE (fun j => pl[j]?) z.cells.toList parts).map fun cs => .agg cs.toArray else none
    | _, _ => none
  | some i, some (.array _ elem) =>
    match i.zero, P.info? elem with
    | some z, some ie => if z.cells.toList.all flat then (fillE (fun j => some (j * ie.size, ie.size)) z.cells.toList parts).map fun cs => .agg cs.toArray else none
    | _, _ => none
  | _, _ => none
theorem run_zeroValue_of {P : Program} {t : TypeId} {i : TypeInfo} {z : Value} (h : P.info? t = some i) (hz : i.zero = some z) (w : World) : (zeroValue t).run P w = .ok z w := by
  simp [zeroValue, typeInfo, h, hz]
theorem buildE_sound {P : Program} {μ : Mu} {t : TypeId} {ps ps' : List (Nat × Value)} {v : Value} (hp : PRel μ ps ps') (e : buildE P t ps = some v) (w : World) :
    ∃ v', (Instr.build t ps'.toArray).run P w = .ok v' w ∧ VRel μ v v' := by
  unfold buildE at e
  split at e
  · rename_i i fields hi hu
    split at e
    · rename_i z pl hz hpl
      split at e
      · rename_i hfl
        simp only [Option.map_eq_some_iff] at e
        obtain ⟨cs, e, rfl⟩ := e
        obtain ⟨r', e1, e2⟩ := fillE_sound hp (LRel.flat hfl) e
        refine ⟨.agg r'.toArray, ?_, e2.arr.agg⟩
        simp only [Instr.build, Sem.run_bind, run_zeroValue_of hi hz, Result.andThen_ok, run_underlying_of hu]
        have := placesE_sound (P := P) w hpl
        rw [Array.mapM_eq_mapM_toList, Sem.run_map, this]
        simp only [Result.andThen_ok]
        have hpl2 : (fun x : Nat => pl.toArray[x]?) = fun j => pl[j]? := by funext j; simp
        rw [hpl2]
        simp only [Array.toArray_toList] at e1
        simp only [e1, Sem.run_pure]
      · cases e
    · cases e
  · rename_i i n elem hi hu
    split at e
    · rename_i z ie hz hie
      split at e
      · rename_i hfl
        simp only [Option.map_eq_some_iff] at e
        obtain ⟨cs, e, rfl⟩ := e
        obtain ⟨r', e1, e2⟩ := fillE_sound hp (LRel.flat hfl) e
        refine ⟨.agg r'.toArray, ?_, e2.arr.agg⟩
        simp only [Instr.build, Sem.run_bind, run_zeroValue_of hi hz, Result.andThen_ok, run_underlying_of hu, run_sizeOf_of hie]
        simp only [Array.toArray_toList] at e1
        simp only [e1, Sem.run_pure]
      · cases e
    · cases e
  · cases e
end Go.Abs
/- The operations that read no memory, in one function. -/
namespace Go.Abs
open Go
def convE (P : Program) (s d : TypeId) (x : Value) : Option Value :=
  match P.underlying s, P.underlying d, x with
  | some _, some (.int k), .int _ n => some (.int k (k.wrap n))
  | some _, some .string, .string b => some (.string b)
  | _, _, _ => if flat x then flatRun P (convert s d x) else none
theorem convE_sound {P : Program} {μ : Mu} {s d : TypeId} {x x' v : Value} (hx : VRel μ x x') (e : convE P s d x = some v) (w : World) : (convert s d x').run P w = .ok v w ∧ VRel μ v v := by
  unfold convE at e
  split at e
  · rename_i ds k k' n h1 h2
    cases e
    cases hx
    exact ⟨by simp [convert, run_underlying_of h1, run_underlying_of h2, Conv.intToInt], .int _ _⟩
  · rename_i ds b h1 h2
    cases e
    cases hx
    exact ⟨by simp [convert, run_underlying_of h1, run_underlying_of h2], .string _⟩
  · split at e
    · rename_i hf
      rw [hx.flat_eq hf]
      exact flatRun_sound e μ w
    · cases e
def unE (P : Program) (op : UnOp) (x : Value) : Option Value :=
  match op, x with
  | .not, .bool b => some (.bool (!b))
  | .neg, .int k n => some (.int k (k.wrap (0 - n)))
  | op, x => if flat x then flatRun P (Op.unary op x) else none
theorem unE_sound {P : Program} {μ : Mu} {op : UnOp} {x x' v : Value} (hx : VRel μ x x') (e : unE P op x = some v) (w : World) : (Op.unary op x').run P w = .ok v w ∧ VRel μ v v := by
  unfold unE at e
  split at e
  · cases e; cases hx; exact ⟨rfl, .bool _⟩
  · cases e; cases hx; exact ⟨rfl, .int _ _⟩
  · split at e
    · rename_i hf
      rw [hx.flat_eq hf]
      exact flatRun_sound e μ w
    · cases e
def fieldE (P : Program) (t : TypeId) (x : Value) (f : Nat) : Option Value :=
  match P.underlying t, x with
  | some (.struct fields), .agg cs =>
    match fields[f]? with
    | some fd => match isAggE P fd.type, P.info? fd.type with
      | some true, some i => if fd.offset + i.size ≤ cs.toList.length then some (.agg ((cs.toList.drop fd.offset).take i.size).toArray) else none
      | some false, some _ => cs.toList[fd.offset]?
      | _, _ => none
    | none => none
  | _, _ => none
theorem part_sound {P : Program} {μ : Mu} {t : TypeId} {cs cs' : Array Value} (hc : ARel μ cs cs') {o : Nat} {v : Value} (w : World) (e : (match isAggE P t, P.info? t with
      | some true, some i => if o + i.size ≤ cs.toList.length then some (Value.agg ((cs.toList.drop o).take i.size).toArray) else none
      | some false, some _ => cs.toList[o]?
      | _, _ => none) = some v) : ∃ v', (part t cs' o).run P w = .ok v' w ∧ VRel μ v v' := by
  split at e
  · rename_i i e1 e2
    split at e
    · rename_i hle
      cases e
      refine ⟨.agg (cs'.extract o (o + i.size)), ?_, ?_⟩
      · simp [part, run_isAgg_of e1, run_sizeOf_of e2]
      · refine ARel.agg ?_
        have : cs'.extract o (o + i.size) = ((cs'.toList.drop o).take i.size).toArray := by
          apply Array.ext'
          simp [Array.toList_extract, List.extract_eq_take_drop]
        rw [this]
        refine LRel.arr (LRel.of_get ?_ ?_)
        · have := hc.1; simp; omega
        · intro j a b ha hb
          rw [List.getElem?_take] at ha hb
          split at ha
          · rename_i hj
            rw [if_pos hj] at hb
            rw [List.getElem?_drop] at ha hb
            exact hc.2 (o + j) a b (by simpa using ha) (by simpa using hb)
          · cases ha
    · cases e
  · rename_i i e1 e2
    obtain ⟨v', q1, q2⟩ := hc.get (i := o) (a := v) (by simpa using e)
    exact ⟨v', by simp [part, run_isAgg_of e1, q1], q2⟩
  · cases e
theorem fieldE_sound {P : Program} {μ : Mu} {t : TypeId} {x x' v : Value} {f : Nat} (hx : VRel μ x x') (e : fieldE P t x f = some v) (w : World) : ∃ v', (Instr.field t x' f).run P w = .ok v' w ∧ VRel μ v v' := by
  unfold fieldE at e
  split at e
  · rename_i fields cs hu
    cases hx with
    | agg hc hc' =>
      split at e
      · rename_i fd hfd
        obtain ⟨v', q1, q2⟩ := part_sound (P := P) ⟨hc, hc'⟩ w e
        refine ⟨v', ?_, q2⟩
        simp only [Instr.field, Sem.run_bind, run_underlying_of hu, Result.andThen_ok, hfd, asAgg, Sem.run_pure]
        exact q1
      · cases e
  · cases e
def fieldAddrE (P : Program) (s : TypeId) (x : Value) (f : Nat) : Option Value :=
  match P.underlying s, x with
  | some (.struct fields), .pointer (some ⟨b, o, none⟩) =>
    match fields[f]? with
    | some fd => match P.info? fd.type with
      | some i => if i.size = 0 then none else some (.pointer (some ⟨b, o + fd.offset, none⟩))
      | none => none
    | none => none
  | _, _ => none
theorem fieldAddrE_sound {P : Program} {μ : Mu} {t : TypeId} {x x' v : Value} {f : Nat} (hx : VRel μ x x') (e : fieldAddrE P t x f = some v) (w : World) : ∃ v', (Instr.fieldAt t x' f).run P w = .ok v' w ∧ VRel μ v v' := by
  unfold fieldAddrE at e
  split at e
  · rename_i fields b o hu
    cases hx with
    | ptr o hm =>
      split at e
      · rename_i fd hfd
        split at e
        · rename_i i hi
          split at e
          · cases e
          · rename_i hs
            cases e
            refine ⟨_, ?_, .ptr _ hm⟩
            simp [Instr.fieldAt, run_underlying_of hu, hfd, Instr.sureAddr, fieldPlace, run_sizeOf_of hi, hs, Addr.add_plain, Nat.add_assoc]
        · cases e
      · cases e
  · cases e
def indexAddrE (P : Program) (t : TypeId) (x ix : Value) : Option Value :=
  match P.underlying t, x, ix with
  | some (.slice elem), .slice (some ⟨b, o, none⟩) len _, .int _ i =>
    match P.info? elem with
    | some inf => if 0 ≤ i ∧ i < len then some (.pointer (some ⟨b, o + i.toNat * inf.size, none⟩)) else none
    | none => none
  | some (.array len elem), .pointer (some ⟨b, o, none⟩), .int _ i =>
    match P.info? elem with
    | some inf => if 0 ≤ i ∧ i < len then some (.pointer (some ⟨b, o + i.toNat * inf.size, none⟩)) else none
    | none => none
  | _, _, _ => none
theorem indexAddrE_sound {P : Program} {μ : Mu} {t : TypeId} {x x' ix ix' v : Value} (hx : VRel μ x x') (hi : VRel μ ix ix') (e : indexAddrE P t x ix = some v) (w : World) : ∃ v', (Instr.indexAt t x' ix').run P w = .ok v' w ∧ VRel μ v v' := by
  unfold indexAddrE at e
  split at e
  · rename_i elem b o len cap k i hu
    cases hi
    cases hx with
    | slice o len cap cap' hm hc =>
      split at e
      · rename_i inf hinf
        split at e
        · rename_i hb
          cases e
          refine ⟨_, ?_, .ptr _ hm⟩
          simp [Instr.indexAt, asIntOf, run_underlying_of hu, hb, run_sizeOf_of hinf, Addr.add_plain, Nat.add_assoc]
        · cases e
      · cases e
    | szero _ _ a' =>
      split at e
      · split at e
        · rename_i hb
          exact absurd hb (by omega)
        · cases e
      · cases e
  · rename_i len elem b o k i hu
    cases hi
    cases hx with
    | ptr o hm =>
      split at e
      · rename_i inf hinf
        split at e
        · rename_i hb
          cases e
          refine ⟨_, ?_, .ptr _ hm⟩
          simp [Instr.indexAt, asIntOf, run_underlying_of hu, Instr.sureAddr, hb, run_sizeOf_of hinf, Addr.add_plain, Nat.add_assoc]
        · cases e
      · cases e
  · cases e
def indexE (P : Program) (t : TypeId) (x ix : Value) : Option Value :=
  match P.underlying t, x, ix with
  | some (.array len elem), .agg cs, .int _ i =>
    match P.info? elem with
    | some inf => if 0 ≤ i ∧ i < len then (match isAggE P elem, P.info? elem with
      | some true, some j => if i.toNat * inf.size + j.size ≤ cs.toList.length then some (Value.agg ((cs.toList.drop (i.toNat * inf.size)).take j.size).toArray) else none
      | some false, some _ => cs.toList[i.toNat * inf.size]?
      | _, _ => none) else none
    | none => none
  | some .string, .string s, .int _ i =>
    if 0 ≤ i then (match s.data.toList[i.toNat]? with
      | some b => some (.int .u8 b.toNat)
      | none => none) else none
  | _, _, _ => none
theorem indexE_sound {P : Program} {μ : Mu} {t : TypeId} {x x' ix ix' v : Value} (hx : VRel μ x x') (hi : VRel μ ix ix') (e : indexE P t x ix = some v) (w : World) : ∃ v', (Instr.index t x' ix').run P w = .ok v' w ∧ VRel μ v v' := by
  unfold indexE at e
  split at e
  · rename_i len elem cs k i hu
    cases hi
    cases hx with
    | agg hc hc' =>
      split at e
      · rename_i inf hinf
        split at e
        · rename_i hb
          obtain ⟨v', q1, q2⟩ := part_sound (P := P) (t := elem) ⟨hc, hc'⟩ w e
          refine ⟨v', ?_, q2⟩
          simp [Instr.index, asIntOf, run_underlying_of hu, hb, run_sizeOf_of hinf, q1]
        · cases e
      · cases e
  · rename_i s k i hu
    cases hi; cases hx
    split at e
    · rename_i h0
      split at e
      · rename_i b hb
        cases e
        refine ⟨_, ?_, .int _ _⟩
        have hlt : i.toNat < s.size := by
          have := (List.getElem?_eq_some_iff.1 hb).1
          simpa using this
        have hb2 : s[i.toNat]? = some b := by
          rw [getElem?_pos s i.toNat hlt]
          obtain ⟨h1, h2⟩ := List.getElem?_eq_some_iff.1 hb
          congr 1
        simp [Instr.index, asIntOf, run_underlying_of hu, h0, hb2]
      · cases e
    · cases e
  · cases e
def assertE (P : Program) (x : Value) (asserted : TypeId) (ok : Bool) : Option Value :=
  match P.underlying asserted, x with
  | some (.interface _), _ => none
  | some _, .nilIface => if ok then (match P.info? asserted with
    | some i => match i.zero with
      | some z => if flat z then some (.tuple #[z, .bool false]) else none
      | none => none
    | none => none) else none
  | some _, .iface t v => if t = asserted then some (if ok then .tuple #[v, .bool true] else v)
    else if ok then (match P.info? asserted with
      | some i => match i.zero with
        | some z => if flat z then some (.tuple #[z, .bool false]) else none
        | none => none
      | none => none) else none
  | _, _ => none
theorem pair_rel {μ : Mu} {a b c d : Value} (h : VRel μ a b) (k : VRel μ c d) : VRel μ (.tuple #[a, c]) (.tuple #[b, d]) :=
  (LRel.arr (.cons h (.cons k .nil))).tuple
theorem assertE_sound {P : Program} {μ : Mu} {xt asserted : TypeId} {ok : Bool} {x x' v : Value} (hx : VRel μ x x') (e : assertE P x asserted ok = some v) (w : World) :
    ∃ v', (Instr.typeAssert x' xt asserted ok).run P w = .ok v' w ∧ VRel μ v v' := by
  unfold assertE at e
  split at e
  · cases e
  · rename_i d hni hu
    cases hx
    cases ok with
    | false => simp at e
    | true =>
      simp only [if_true] at e
      split at e
      · rename_i i hi
        split at e
        · rename_i z hz
          split at e
          · rename_i hf
            cases e
            refine ⟨_, ?_, pair_rel (.flat_self hf) (.bool false)⟩
            simp only [Instr.typeAssert, Sem.run_bind, run_underlying_of hu, Result.andThen_ok]
            cases d <;> first | exact (hni _ rfl).elim | simp [run_zeroValue_of hi hz]
          · cases e
        · cases e
      · cases e
  · rename_i d t v0 hni hu
    cases hx with
    | iface t hv =>
      split at e
      · rename_i ht
        cases e
        cases ok with
        | false =>
          refine ⟨_, ?_, hv⟩
          simp only [Instr.typeAssert, Sem.run_bind, run_underlying_of hu, Result.andThen_ok]
          cases d <;> first | exact (hni _ rfl).elim | simp [ht]
        | true =>
          refine ⟨_, ?_, pair_rel hv (.bool true)⟩
          simp only [Instr.typeAssert, Sem.run_bind, run_underlying_of hu, Result.andThen_ok]
          cases d <;> first | exact (hni _ rfl).elim | simp [ht]
      · rename_i ht
        cases ok with
        | false => simp at e
        | true =>
          simp only [if_true] at e
          split at e
          · rename_i i hi
            split at e
            · rename_i z hz
              split at e
              · rename_i hf
                cases e
                refine ⟨_, ?_, pair_rel (.flat_self hf) (.bool false)⟩
                simp only [Instr.typeAssert, Sem.run_bind, run_underlying_of hu, Result.andThen_ok]
                cases d <;> first | exact (hni _ rfl).elim | simp [run_zeroValue_of hi hz, ht]
              · cases e
            · cases e
          · cases e
  · cases e
def extractE (x : Value) (i : Nat) : Option Value :=
  match x with
  | .tuple vs => vs.toList[i]?
  | _ => none
theorem extractE_sound {P : Program} {μ : Mu} {x x' v : Value} {i : Nat} (hx : VRel μ x x') (e : extractE x i = some v) (w : World) : ∃ v', (Instr.extract x' i).run P w = .ok v' w ∧ VRel μ v v' := by
  unfold extractE at e
  split at e
  · cases hx with
    | tuple hc hc' =>
      obtain ⟨v', q1, q2⟩ := ARel.get ⟨hc, hc'⟩ (i := i) (a := v) (by simpa using e)
      exact ⟨v', by simp [Instr.extract, q1], q2⟩
  · cases e
/-- len and cap of what is told by the value alone. -/
def lenE (P : Program) (ts : List TypeId) (args : List Value) : Option Value :=
  match ts, args with
  | t :: _, [x] => match P.underlying t, x with
    | some .string, .string s => some (.int .i64 s.data.toList.length)
    | some (.slice _), .slice _ n _ => some (.int .i64 n)
    | some (.array n _), _ => some (.int .i64 n)
    | _, _ => none
  | _, _ => none
theorem lenE_sound {P : Program} {μ : Mu} {ts : Array TypeId} {args args' : List Value} {v : Value} (ha : LRel μ args args') (e : lenE P ts.toList args = some v) (w : World) (ty : TypeId) :
    (Builtin.len_ ts ty args'.toArray).run P w = .ok v w ∧ VRel μ v v := by
  unfold lenE at e
  split at e
  · rename_i t rest x hts
    cases ha with
    | cons hx ht =>
      cases ht
      have h0 : ts[0]? = some t := by rw [← Array.getElem?_toList, hts]; rfl
      split at e
      · rename_i s hu
        cases e; cases hx
        exact ⟨by simp [Builtin.len_, h0, run_underlying_of hu, goInt], .int _ _⟩
      · rename_i b n c el hu
        cases e
        cases hx <;> exact ⟨by simp [Builtin.len_, h0, run_underlying_of hu, goInt], .int _ _⟩
      · rename_i n el hu
        cases e
        exact ⟨by simp [Builtin.len_, h0, run_underlying_of hu, goInt], .int _ _⟩
      · cases e
  · cases e
end Go.Abs
/- Calm operations: those that read no memory, and those that read alone. -/
namespace Go.Abs
open Go
def builtinE (P : Program) (b : Builtin) (ts : Array TypeId) (args : List Value) : Option Value :=
  match b with
  | .len => lenE P ts.toList args
  | .cap => match ts.toList, args with
    | t :: _, [.slice _ _ c] => match P.underlying t with
      | some (.slice _) => if c = U then none else some (.int .i64 c)
      | _ => none
    | _, _ => none
  | .min => match args with
    | [.int k a, .int _ b] => some (.int k (if b < a then b else a))
    | _ => none
  | .max => match args with
    | [.int k a, .int _ b] => some (.int k (if b > a then b else a))
    | _ => none
  | _ => none
theorem builtinE_sound {P : Program} {μ : Mu} {b : Builtin} {ts : Array TypeId} {ty : TypeId} {args args' : List Value} {v : Value} (ha : LRel μ args args') (e : builtinE P b ts args = some v) (cs : Array Bool) (w : World) :
    ∃ v', (builtin b ts ty cs args'.toArray).run P w = .ok (.value v') w ∧ VRel μ v v' := by
  unfold builtinE at e
  split at e
  · obtain ⟨q1, q2⟩ := lenE_sound ha e w ty
    exact ⟨v, by simp [builtin, q1], q2⟩
  · split at e
    · rename_i t rest s n c hts
      cases ha with
      | cons hx ht =>
        cases ht
        have h0 : ts[0]? = some t := by rw [← Array.getElem?_toList, hts]; rfl
        split at e
        · rename_i el hu
          split at e
          · cases e
          · rename_i hc
            cases e
            cases hx with
            | snil => exact ⟨_, by simp [builtin, Builtin.cap_, h0, run_underlying_of hu, goInt], .int _ _⟩
            | szero _ _ a' => exact ⟨_, by simp [builtin, Builtin.cap_, h0, run_underlying_of hu, goInt], .int _ _⟩
            | slice o len cap cap' hm hcc =>
              rcases hcc with ⟨_, rfl⟩ | ⟨h, _⟩
              · exact ⟨_, by simp [builtin, Builtin.cap_, h0, run_underlying_of hu, goInt], .int _ _⟩
              · exact (hc h).elim
        · cases e
    · cases e
  · split at e
    · cases e
      cases ha with
      | cons hx ht => cases ht with
        | cons hy ht => cases ht; cases hx; cases hy; exact ⟨_, by simp [builtin, Builtin.min_, Builtin.min2], .int _ _⟩
    · cases e
  · split at e
    · cases e
      cases ha with
      | cons hx ht => cases ht with
        | cons hy ht => cases ht; cases hx; cases hy; exact ⟨_, by simp [builtin, Builtin.max_, Builtin.max2], .int _ _⟩
    · cases e
  · cases e
def nilCheckE (x : Value) : Option Value :=
  match x with
  | .pointer (some a) => some (.pointer (some a))
  | .iface t v => some (.iface t v)
  | .func (.func f) a b => some (.func (.func f) a b)
  | _ => none
def pureE (P : Program) (o : Oper) (ρ : Operand → Value) : Option Value :=
  match o.op with
  | .move x => some (ρ x)
  | .assign x => some (ρ x)
  | .pick c a b => match ρ c with
    | .bool t => some (if t then ρ a else ρ b)
    | _ => none
  | .build t parts => buildE P t (parts.toList.map fun p => (p.1, ρ p.2))
  | .nilCheck x => nilCheckE (ρ x)
  | .binOp op t x y _ => binE P op t (isConst x) (isConst y) (ρ x) (ρ y)
  | .unOp op _ x => unE P op (ρ x)
  | .convert s d x => convE P s d (ρ x)
  | .makeInterface t x => match P.underlying t with
    | some (.interface _) => none
    | some _ => some (.iface t (ρ x))
    | none => none
  | .makeFunc fn f c => some (.func fn (f.toList.map ρ).toArray (c.toList.map ρ).toArray)
  | .fieldAddr s x f => fieldAddrE P s (ρ x) f
  | .field t x f => fieldE P t (ρ x) f
  | .indexAddr t x ix => indexAddrE P t (ρ x) (ρ ix)
  | .index t x ix => indexE P t (ρ x) (ρ ix)
  | .typeAssert x _ a ok => assertE P (ρ x) a ok
  | .extract x i => extractE (ρ x) i
  | .call c => match c.callee with
    | .builtin b => builtinE P b c.argTypes (c.args.toList.map ρ)
    | _ => none
  | _ => none
theorem LRel.of_map {μ : Mu} {ρ ρ' : Operand → Value} : ∀ (xs : List Operand), (∀ x ∈ xs, VRel μ (ρ x) (ρ' x)) → LRel μ (xs.map ρ) (xs.map ρ') := by
  intro xs
  induction xs with
  | nil => intro _; exact .nil
  | cons x xs ih => intro h; exact .cons (h x (by simp)) (ih fun y hy => h y (by simp [hy]))
theorem pureE_sound {P : Program} {μ : Mu} {o : Oper} {ρ ρ' : Operand → Value} {v : Value} (hρ : ∀ x ∈ o.op.operands, VRel μ (ρ x) (ρ' x)) (e : pureE P o ρ = some v) (w : World) :
    ∃ v', (execOp ρ' o).run P w = .ok (.value v') w ∧ VRel μ v v' := by
  obtain ⟨dst, op, ty, pos, after, guard⟩ := o
  unfold pureE at e
  cases op <;> simp only [Op.operands] at hρ <;> simp only at e <;> (try (cases e; done))
  case move x => cases e; exact ⟨_, rfl, hρ x (by simp)⟩
  case assign x => cases e; exact ⟨_, rfl, hρ x (by simp)⟩
  case pick c a b =>
    have hc := hρ c (by simp)
    split at e
    · rename_i t ht
      rw [ht] at hc
      generalize hc' : ρ' c = z at hc
      cases hc
      cases e
      refine ⟨if t then ρ' a else ρ' b, by simp [execOp, hc', asBool], ?_⟩
      cases t
      · exact hρ b (by simp)
      · exact hρ a (by simp)
    · cases e
  case build t ps =>
    obtain ⟨v', q1, q2⟩ := buildE_sound (PRel.of_map ps.toList (fun x hx => hρ x (by simpa using hx))) e w
    refine ⟨v', ?_, q2⟩
    have : (ps.map fun (i, x) => (i, ρ' x)) = (ps.toList.map fun p => (p.1, ρ' p.2)).toArray := by apply Array.ext'; simp
    simp only [execOp, this, Sem.run_bind, q1, Result.andThen_ok, Sem.run_pure]
  case nilCheck x =>
    have hx := hρ x (by simp)
    unfold nilCheckE at e
    split at e
    · rename_i a ha
      rw [ha] at hx
      generalize hx' : ρ' x = z at hx
      cases hx with
      | ptr o hm => cases e; exact ⟨_, by simp [execOp, hx'], .ptr o hm⟩
    · rename_i t u ha
      rw [ha] at hx
      generalize hx' : ρ' x = z at hx
      cases hx with
      | iface _ hv => cases e; exact ⟨_, by simp [execOp, hx'], .iface t hv⟩
    · rename_i f c d ha
      rw [ha] at hx
      generalize hx' : ρ' x = z at hx
      cases hx with
      | func fn h1 h2 h3 h4 => cases e; exact ⟨_, by simp [execOp, hx'], .func _ h1 h2 h3 h4⟩
    · cases e
  case binOp op t x y yt =>
    obtain ⟨q1, q2⟩ := run_binE (hρ x (by simp)) (hρ y (by simp)) e w
    exact ⟨v, by simp only [execOp, Sem.run_bind] at q1 ⊢; rw [q1]; rfl, q2⟩
  case unOp op t x =>
    obtain ⟨q1, q2⟩ := unE_sound (hρ x (by simp)) e w
    exact ⟨v, by simp [execOp, q1], q2⟩
  case convert s d x =>
    obtain ⟨q1, q2⟩ := convE_sound (hρ x (by simp)) e w
    exact ⟨v, by simp [execOp, q1], q2⟩
  case makeInterface t x =>
    have hx := hρ x (by simp)
    split at e
    · cases e
    · rename_i d hni hu
      cases e
      refine ⟨_, ?_, .iface t hx⟩
      simp only [execOp, Instr.makeInterface, Sem.run_bind, run_underlying_of hu, Result.andThen_ok]
      cases d <;> first | exact (hni _ rfl).elim | rfl
    · cases e
  case makeFunc fn f c =>
    cases e
    have h1 := LRel.of_map f.toList (fun x hx => hρ x (by simp at hx; simp [hx]))
    have h2 := LRel.of_map c.toList (fun x hx => hρ x (by simp at hx; simp [hx]))
    refine ⟨.func fn (f.toList.map ρ').toArray (c.toList.map ρ').toArray, ?_, .func fn h1.arr.1 h2.arr.1 h1.arr.2 h2.arr.2⟩
    have e1 : f.map ρ' = (f.toList.map ρ').toArray := by apply Array.ext'; simp
    have e2 : c.map ρ' = (c.toList.map ρ').toArray := by apply Array.ext'; simp
    simp [execOp, Instr.makeFunc, e1, e2]
  case fieldAddr s x f =>
    obtain ⟨v', q1, q2⟩ := fieldAddrE_sound (hρ x (by simp)) e w
    exact ⟨v', by simp [execOp, q1], q2⟩
  case field s x f =>
    obtain ⟨v', q1, q2⟩ := fieldE_sound (hρ x (by simp)) e w
    exact ⟨v', by simp [execOp, q1], q2⟩
  case indexAddr t x ix =>
    obtain ⟨v', q1, q2⟩ := indexAddrE_sound (hρ x (by simp)) (hρ ix (by simp)) e w
    exact ⟨v', by simp [execOp, q1], q2⟩
  case index t x ix =>
    obtain ⟨v', q1, q2⟩ := indexE_sound (hρ x (by simp)) (hρ ix (by simp)) e w
    exact ⟨v', by simp [execOp, q1], q2⟩
  case typeAssert x xt a ok =>
    obtain ⟨v', q1, q2⟩ := assertE_sound (xt := xt) (hρ x (by simp)) e w
    exact ⟨v', by simp [execOp, q1], q2⟩
  case extract x i =>
    obtain ⟨v', q1, q2⟩ := extractE_sound (P := P) (hρ x (by simp)) e w
    exact ⟨v', by simp [execOp, q1], q2⟩
  case call c =>
    split at e
    · rename_i b hb
      have ha := LRel.of_map c.args.toList (fun x hx => hρ x (by simp [Call.operands, hb]; simpa using hx))
      obtain ⟨v', q1, q2⟩ := builtinE_sound ha e (c.args.map fun | .const _ => true | _ => false) w
      refine ⟨v', ?_, q2⟩
      have e1 : c.args.map ρ' = (c.args.toList.map ρ').toArray := by apply Array.ext'; simp
      simp only [execOp, resolve, hb, Sem.run_bind, Sem.run_pure, Result.andThen_ok, invoke, e1]
      exact q1
    · cases e
end Go.Abs
/- Operations that read memory, and write none. -/
namespace Go.Abs
open Go
/-- A bound of a slice expression: none, or a number from 0 to a most one. -/
def boundE (v : Option Value) (most dflt : Nat) : Option Nat :=
  match v with
  | none => some dflt
  | some (.int _ i) => if 0 ≤ i ∧ i ≤ most then some i.toNat else none
  | some _ => none
inductive ORelV (μ : Mu) : Option Value → Option Value → Prop
  | none : ORelV μ none none
  | some {x y : Value} (h : VRel μ x y) : ORelV μ (some x) (some y)
theorem boundE_sound {P : Program} {μ : Mu} {v v' : Value} {most dflt n : Nat} (hv : VRel μ v v') (e : boundE (some v) most dflt = some n) (code : BoundsCode) {most' : Nat} (hm : most ≤ most') (w : World) :
    (Instr.sliceBound v' most' code).run P w = .ok n w ∧ n ≤ most := by
  unfold boundE at e
  split at e
  · cases ‹some v = none›
  · rename_i k i heq
    cases heq
    cases hv
    split at e
    · rename_i hb
      cases e
      refine ⟨?_, by omega⟩
      have : 0 ≤ i ∧ i ≤ (most' : Int) := ⟨hb.1, by omega⟩
      simp [Instr.sliceBound, asIntOf, this]
    · cases e
  · cases e
/-- The bounds low, high, max of a slice of that length; 'cap': how far one may reach, 'none': no further than the length. -/
def boundsE (len : Nat) (cap : Nat) (lo hi mx : Option Value) : Option (Nat × Nat × Option Nat) :=
  match mx with
  | none => match boundE hi cap len with
    | some h => match boundE lo h 0 with
      | some l => some (l, h, none)
      | none => none
    | none => none
  | some m => match boundE (some m) cap 0 with
    | some m => match hi with
      | some hv => match boundE (some hv) m 0 with
        | some h => match boundE lo h 0 with
          | some l => some (l, h, some m)
          | none => none
        | none => none
      | none => none
    | none => none
theorem boundE_none (most dflt : Nat) : boundE none most dflt = some dflt := rfl
theorem boundsE_sound {P : Program} {μ : Mu} {len cap cap' : Nat} {lo hi mx lo' hi' mx' : Option Value} {l h : Nat} {m : Option Nat} (isSlice : Bool) (h1 : ORelV μ lo lo') (h2 : ORelV μ hi hi') (h3 : ORelV μ mx mx')
    (hc : cap ≤ cap') (hlen : len ≤ cap) (e : boundsE len cap lo hi mx = some (l, h, m)) (w : World) :
    (Instr.sliceBounds isSlice len cap' lo' hi' mx').run P w = .ok (l, h, m.getD cap') w ∧ l ≤ h ∧ h ≤ cap ∧ (∀ x, m = some x → h ≤ x ∧ x ≤ cap) := by
  cases h3 with
  | none =>
    cases h2 with
    | none =>
      cases h1 with
      | none =>
        simp [boundsE, boundE] at e
        obtain ⟨rfl, rfl, rfl⟩ := e
        exact ⟨by simp [Instr.sliceBounds], by omega, hlen, by simp⟩
      | some hv =>
        simp only [boundsE, boundE_none] at e
        split at e
        · rename_i l0 e0
          cases e
          obtain ⟨q1, q2⟩ := boundE_sound (P := P) hv e0 .sliceB (Nat.le_refl _) w
          exact ⟨by simp [Instr.sliceBounds, q1], q2, hlen, by simp⟩
        · cases e
    | some hh =>
      cases h1 with
      | none =>
        simp only [boundsE, boundE_none] at e
        split at e
        · rename_i u0 e0
          cases e
          obtain ⟨q1, q2⟩ := boundE_sound (P := P) hh e0 (if isSlice then .sliceAcap else .sliceAlen) hc w
          exact ⟨by simp [Instr.sliceBounds, q1], by omega, q2, by simp⟩
        · cases e
      | some hv =>
        simp only [boundsE] at e
        split at e
        · rename_i u0 e0
          split at e
          · rename_i l0 e1
            cases e
            obtain ⟨q1, q2⟩ := boundE_sound (P := P) hh e0 (if isSlice then .sliceAcap else .sliceAlen) hc w
            obtain ⟨q3, q4⟩ := boundE_sound (P := P) hv e1 .sliceB (Nat.le_refl _) w
            exact ⟨by simp [Instr.sliceBounds, q1, q3], q4, q2, by simp⟩
          · cases e
        · cases e
  | some hmx =>
    cases h2 with
    | none =>
      simp only [boundsE] at e
      split at e <;> cases e
    | some hh =>
      simp only [boundsE] at e
      split at e
      · rename_i m0 e0
        split at e
        · rename_i u0 e1
          split at e
          · rename_i l0 e2
            cases e
            obtain ⟨p1, p2⟩ := boundE_sound (P := P) hmx e0 (if isSlice then .slice3Acap else .slice3Alen) hc w
            obtain ⟨q1, q2⟩ := boundE_sound (P := P) hh e1 .slice3B (Nat.le_refl _) w
            cases h1 with
            | none =>
              simp [boundE] at e2
              subst e2
              exact ⟨by simp [Instr.sliceBounds, p1, q1], by omega, by omega, fun x hx => by cases hx; exact ⟨q2, p2⟩⟩
            | some hv =>
              obtain ⟨q3, q4⟩ := boundE_sound (P := P) hv e2 .slice3C (Nat.le_refl _) w
              exact ⟨by simp [Instr.sliceBounds, p1, q1, q3], q4, by omega, fun x hx => by cases hx; exact ⟨q2, p2⟩⟩
          · cases e
        · cases e
      · cases e
def sliceE (P : Program) (t : TypeId) (x : Value) (lo hi mx : Option Value) (h : Heap) : Option Value :=
  match P.underlying t, x with
  | some .string, .string s => match mx, boundsE s.data.toList.length s.data.toList.length lo hi none with
    | none, some (l, u, _) => some (.string (sliceS s l u))
    | _, _ => none
  | some (.slice elem), .slice none 0 0 => match P.info? elem, boundsE 0 0 lo hi mx with
    | some _, some _ => some (.slice none 0 0)
    | _, _ => none
  | some (.slice elem), .slice (some ⟨b, o, none⟩) len cap =>
    match P.info? elem with
    | some i =>
      if len ≥ U then none else
      if cap = U then
        match boundsE len len lo hi mx with
        | some (l, u, some m) => some (.slice (some (if m = l then ⟨b, o, none⟩ else ⟨b, o + l * i.size, none⟩)) (u - l) (m - l))
        | some (l, u, none) =>
          if l < len ∨ l = 0 then
            match h.get b with
            | some (.cells cs _ ci) => if ci.k = i.size ∨ (ci.k = 0 ∧ o + l * i.size ≤ cs.length) then some (.slice (some ⟨b, o + l * i.size, none⟩) (u - l) U) else none
            | _ => none
          else none
        | none => none
      else if len ≤ cap ∧ cap < U then
        match boundsE len cap lo hi mx with
        | some (l, u, m) =>
          some (.slice (some (if m.getD cap = l then ⟨b, o, none⟩ else ⟨b, o + l * i.size, none⟩)) (u - l) (m.getD cap - l))
        | none => none
      else none
    | none => none
  | some (.array n elem), .pointer (some ⟨b, o, none⟩) =>
    match P.info? elem, boundsE n n lo hi mx with
    | some i, some (l, u, m) =>
      if n < U then some (.slice (some (if m.getD n = l then ⟨b, o, none⟩ else ⟨b, o + l * i.size, none⟩)) (u - l) (m.getD n - l)) else none
    | _, _ => none
  | _, _ => none
theorem sliceE_sound {P : Program} {μ : Mu} {h : Heap} {n : Nat} {w : World} (r : Rel P μ h n w) {t : TypeId} {x x' v : Value} {lo hi mx lo' hi' mx' : Option Value} (hx : VRel μ x x') (h1 : ORelV μ lo lo') (h2 : ORelV μ hi hi') (h3 : ORelV μ mx mx')
    (e : sliceE P t x lo hi mx h = some v) : ∃ v', (Instr.sliceAt t x' lo' hi' mx').run P w = .ok v' w ∧ VRel μ v v' := by
  unfold sliceE at e
  split at e
  · rename_i s hu
    cases hx
    split at e
    · rename_i l u m eb
      cases e
      cases h3
      obtain ⟨q1, q2, q3, _⟩ := boundsE_sound (P := P) false h1 h2 .none (Nat.le_refl _) (Nat.le_refl _) eb w
      refine ⟨_, ?_, .string _⟩
      have hs : s.data.toList.length = s.size := by simp
      rw [hs] at q1
      simp only [Instr.sliceAt, Sem.run_bind, run_underlying_of hu, Result.andThen_ok, Instr.slice, Option.isSome_none, Bool.false_eq_true, if_false, Sem.run_pure]
      rw [q1]
      simp [sliceS_eq]
    · cases e
  · rename_i el hu
    cases hx
    split at e
    · rename_i i y hi eb
      cases e
      obtain ⟨l, u, m⟩ := y
      obtain ⟨q1, q2, q3, q4⟩ := boundsE_sound (P := P) true h1 h2 h3 (Nat.le_refl _) (Nat.le_refl _) eb w
      have hl : l = 0 := by omega
      have hu0 : u = 0 := by omega
      have hm : m.getD 0 = 0 := by
        cases m with
        | none => rfl
        | some z => have := q4 z rfl; simp; omega
      rw [hm, hl, hu0] at q1
      refine ⟨_, ?_, .snil⟩
      simp only [Instr.sliceAt, Sem.run_bind, run_underlying_of hu, Result.andThen_ok, Instr.slice]
      rw [q1]
      simp [run_sizeOf_of hi]
    · cases e
  · rename_i el b o len cap hu
    cases hx with
    | slice _ _ _ cap' hm hcc =>
      rename_i m0
      split at e
      · rename_i i hi
        split at e
        · cases e
        rename_i hlU
        split at e
        · rename_i hU
          have hle : len ≤ cap' ∧ m0.off + o + cap' * m0.k ≤ m0.sz := by
            rcases hcc with ⟨h, _⟩ | ⟨_, c1, c2⟩
            · omega
            · exact ⟨c1, c2⟩
          split at e
          · rename_i l u m eb
            cases e
            obtain ⟨q1, q2, q3, q4⟩ := boundsE_sound (P := P) true h1 h2 h3 hle.1 (Nat.le_refl _) eb w
            have hrun : (Instr.sliceAt t (.slice (some ⟨m0.blk, m0.off + o, none⟩) len cap') lo' hi' mx').run P w = .ok (.slice (some (if m = l then ⟨m0.blk, m0.off + o, none⟩ else ⟨m0.blk, m0.off + (o + l * i.size), none⟩)) (u - l) (m - l)) w := by
              simp only [Instr.sliceAt, Sem.run_bind, run_underlying_of hu, Result.andThen_ok, Instr.slice]
              rw [q1]
              simp only [Result.andThen_ok, run_sizeOf_of hi, Sem.run_pure, Option.getD_some, Addr.add_plain, Option.map_some, Nat.add_assoc]
              congr 2
              split <;> rfl
            refine ⟨_, hrun, ?_⟩
            have hmU : m - l < U := by have := q4 m rfl; omega
            split
            · exact .slice _ _ _ _ hm (.inl ⟨hmU, rfl⟩)
            · exact .slice _ _ _ _ hm (.inl ⟨hmU, rfl⟩)
          · rename_i l u eb
            split at e
            · rename_i hlt
              split at e
              · rename_i cs own ci hb
                split at e
                · rename_i hk
                  cases e
                  obtain ⟨q1, q2, q3, q4⟩ := boundsE_sound (P := P) true h1 h2 h3 hle.1 (Nat.le_refl _) eb w
                  obtain ⟨m1, x1, f1, f2, f3⟩ := r.obj b _ hb
                  rw [hm] at f1; cases f1
                  have hkk : m0.k = ci.k ∧ m0.off + cs.length ≤ m0.sz := by
                    cases x1 with
                    | cells c e' fr => obtain ⟨g1, g2, _, _, g5, _⟩ := f3; exact ⟨g5, by omega⟩
                    | _ => exact f3.elim
                  have hrun : (Instr.sliceAt t (.slice (some ⟨m0.blk, m0.off + o, none⟩) len cap') lo' hi' mx').run P w = .ok (.slice (some ⟨m0.blk, m0.off + (o + l * i.size), none⟩) (u - l) (cap' - l)) w := by
                    simp only [Instr.sliceAt, Sem.run_bind, run_underlying_of hu, Result.andThen_ok, Instr.slice]
                    rw [q1]
                    simp only [Result.andThen_ok, run_sizeOf_of hi, Sem.run_pure, Option.getD_none, Addr.add_plain, Option.map_some, Nat.add_assoc]
                    by_cases hcl : cap' = l
                    · have : l = 0 := by omega
                      subst this
                      simp
                    · rw [if_neg hcl]
                  refine ⟨_, hrun, .slice _ _ _ _ hm (.inr ⟨rfl, by omega, ?_⟩)⟩
                  have hlc : l ≤ cap' := by omega
                  rcases hk with hk | ⟨hk, hk2⟩
                  · have e1 : l * i.size + (cap' - l) * m0.k = cap' * m0.k := by
                      rw [hkk.1, hk, ← Nat.add_mul]
                      congr 1; omega
                    omega
                  · rw [hkk.1, hk]; omega
                · cases e
              · cases e
            · cases e
          · cases e
        · rename_i hU
          split at e
          · rename_i hlen
            obtain ⟨hlen, hcU⟩ := hlen
            have hcc' : cap = cap' := by
              rcases hcc with ⟨_, h⟩ | ⟨h, _⟩
              · exact h
              · exact (hU h).elim
            subst hcc'
            split at e
            · rename_i l u m eb
              cases e
              obtain ⟨q1, q2, q3, q4⟩ := boundsE_sound (P := P) true h1 h2 h3 (Nat.le_refl _) hlen eb w
              have hrun : (Instr.sliceAt t (.slice (some ⟨m0.blk, m0.off + o, none⟩) len cap) lo' hi' mx').run P w = .ok (.slice (some (if m.getD cap = l then ⟨m0.blk, m0.off + o, none⟩ else ⟨m0.blk, m0.off + (o + l * i.size), none⟩)) (u - l) (m.getD cap - l)) w := by
                simp only [Instr.sliceAt, Sem.run_bind, run_underlying_of hu, Result.andThen_ok, Instr.slice]
                rw [q1]
                simp only [Result.andThen_ok, run_sizeOf_of hi, Sem.run_pure, Addr.add_plain, Option.map_some, Nat.add_assoc]
                congr 2
                split <;> rfl
              refine ⟨_, hrun, ?_⟩
              have hmU : m.getD cap - l < U := by
                cases m with
                | none => simp; omega
                | some z => have := q4 z rfl; simp; omega
              split
              · exact .slice _ _ _ _ hm (.inl ⟨hmU, rfl⟩)
              · exact .slice _ _ _ _ hm (.inl ⟨hmU, rfl⟩)
            · cases e
          · cases e
      · cases e
    | szero _ _ a' =>
      split at e
      · rename_i i hi
        split at e
        · cases e
        split at e
        · rename_i hU
          exact absurd hU (by unfold U; decide)
        · split at e
          · rename_i hlen
            split at e
            · rename_i l u m eb
              cases e
              obtain ⟨q1, q2, q3, q4⟩ := boundsE_sound (P := P) true h1 h2 h3 (Nat.le_refl _) hlen.1 eb w
              have hu0 : u = 0 := by omega
              have hl : l = 0 := by omega
              have hm : m.getD 0 = 0 := by
                cases m with
                | none => rfl
                | some z => have := q4 z rfl; simp; omega
              have hrun : (Instr.sliceAt t (.slice (some a') 0 0) lo' hi' mx').run P w = .ok (.slice (some a') 0 0) w := by
                simp only [Instr.sliceAt, Sem.run_bind, run_underlying_of hu, Result.andThen_ok, Instr.slice]
                rw [q1]
                simp only [Result.andThen_ok, run_sizeOf_of hi, Sem.run_pure, Option.map_some]
                rw [hm, hl, hu0]
                simp
              refine ⟨_, hrun, ?_⟩
              rw [hm, hl, hu0]
              simp only [if_true, Nat.sub_self]
              exact .szero _ _ _
            · cases e
          · cases e
      · cases e
  · rename_i k el b o hu
    cases hx with
    | ptr _ hm =>
      rename_i m0
      split at e
      · rename_i i l u m hi eb
        split at e
        · rename_i hkU
          cases e
          obtain ⟨q1, q2, q3, q4⟩ := boundsE_sound (P := P) false h1 h2 h3 (Nat.le_refl _) (Nat.le_refl _) eb w
          have hrun : (Instr.sliceAt t (.pointer (some ⟨m0.blk, m0.off + o, none⟩)) lo' hi' mx').run P w = .ok (.slice (some (if m.getD k = l then ⟨m0.blk, m0.off + o, none⟩ else ⟨m0.blk, m0.off + (o + l * i.size), none⟩)) (u - l) (m.getD k - l)) w := by
            simp only [Instr.sliceAt, Sem.run_bind, run_underlying_of hu, Result.andThen_ok, Instr.sureAddr, Sem.run_pure]
            rw [q1]
            simp only [Result.andThen_ok, run_sizeOf_of hi, Addr.add_plain, Nat.add_assoc]
          refine ⟨_, hrun, ?_⟩
          have hmU : m.getD k - l < U := by
            cases m with
            | none => simp; omega
            | some z => have := q4 z rfl; simp; omega
          split
          · exact .slice _ _ _ _ hm (.inl ⟨hmU, rfl⟩)
          · exact .slice _ _ _ _ hm (.inl ⟨hmU, rfl⟩)
        · cases e
      · cases e
  · cases e
end Go.Abs
/- Operations that read memory: bytes as a string, maps; all calm operations. -/
namespace Go.Abs
open Go
def bytesE : List Value → Option (List Int)
  | [] => some []
  | .int .u8 n :: r => (bytesE r).map fun l => n :: l
  | _ :: _ => none
theorem bytesE_eq : ∀ {xs : List Value} {ns : List Int}, bytesE xs = some ns → xs = ns.map (Value.int .u8) := by
  intro xs
  induction xs with
  | nil => intro ns e; simp only [bytesE, Option.some.injEq] at e; subst e; rfl
  | cons x xs ih =>
    intro ns e
    cases x with
    | int k n =>
      cases k <;> simp only [bytesE, Option.map_eq_some_iff] at e <;> (try (cases e; done))
      obtain ⟨l, h1, rfl⟩ := e
      rw [List.map_cons, ← ih h1]
    | _ => simp [bytesE] at e
theorem LRel.ints {μ : Mu} : ∀ {ns : List Int} {ys : List Value}, LRel μ (ns.map (Value.int .u8)) ys → ys = ns.map (Value.int .u8) := by
  intro ns
  induction ns with
  | nil => intro ys h; cases h; rfl
  | cons n ns ih => intro ys h; cases h with
    | cons hx ht => cases hx; rw [List.map_cons, ih ht]
theorem foldl_push (ns : List Int) : ∀ s : ByteArray, ns.foldl (fun r n => r.push (UInt8.ofNat n.toNat)) s = ⟨(s.data.toList ++ ns.map fun n => UInt8.ofNat n.toNat).toArray⟩ := by
  induction ns with
  | nil => intro s; apply ByteArray.ext; simp
  | cons n ns ih =>
    intro s
    simp only [List.foldl_cons, List.map_cons]
    rw [ih]
    apply ByteArray.ext
    apply Array.ext'
    simp
def strOfE (P : Program) (s d : TypeId) (x : Value) (h : Heap) : Option Value :=
  match P.underlying s, P.underlying d, x with
  | some (.slice e), some .string, .slice (some ⟨b, o, none⟩) len _ =>
    match P.underlying e with
    | some (.int .u8) => match rowE h b o len with
      | some xs => match bytesE xs with
        | some ns => some (.string ⟨(ns.map fun n => UInt8.ofNat n.toNat).toArray⟩)
        | none => none
      | none => none
    | _ => none
  | some (.slice e), some .string, .slice none 0 0 => match P.underlying e with
    | some (.int .u8) => some (.string ⟨#[]⟩)
    | _ => none
  | _, _, _ => none
theorem strOfE_sound {P : Program} {μ : Mu} {h : Heap} {n : Nat} {w : World} (r : Rel P μ h n w) {s d : TypeId} {x x' v : Value} (hx : VRel μ x x') (e : strOfE P s d x h = some v) :
    (convert s d x').run P w = .ok v w ∧ VRel μ v v := by
  unfold strOfE at e
  split at e
  · rename_i el b o len cap hs hd
    cases hx with
    | slice _ _ _ cap' hm hcc =>
      rename_i m0
      split at e
      · rename_i he
        split at e
        · rename_i xs hxs
          split at e
          · rename_i ns hns
            cases e
            refine ⟨?_, .string _⟩
            obtain ⟨m, xs', f1, f2, f3, f4, f5⟩ := rowE_sound r hm hxs
            rw [hm] at f1; cases f1
            rw [bytesE_eq hns] at f5
            have hxs' : xs' = ns.map (Value.int .u8) := by
              have := f5.list
              simp only at this
              exact this.ints
            rw [run_convert_bytes_string w s d el _ _ _ hs he hd]
            rw [run_bytesToString (ns := ns)]
            · rw [foldl_push]; rfl
            · rw [← hxs', ← f2]; exact run_loadCells xs' f4
          · cases e
        · cases e
      · cases e
    | szero _ _ a' =>
      split at e
      · rename_i he
        split at e
        · rename_i xs hxs
          have hx0 : xs = [] := by
            unfold rowE at hxs
            simpa using hxs.symm
          subst hx0
          split at e
          · rename_i ns hns
            cases e
            have hn0 : ns = [] := by
              rw [bytesE] at hns
              simpa using hns.symm
            subst hn0
            refine ⟨?_, .string _⟩
            rw [run_convert_bytes_string w s d el _ _ _ hs he hd]
            rw [run_bytesToString (ns := [])]
            · rfl
            · rfl
          · cases e
        · cases e
      · cases e
  · rename_i el hs hd
    cases hx
    split at e
    · rename_i he
      cases e
      refine ⟨?_, .string _⟩
      rw [run_convert_bytes_string w s d el _ _ _ hs he hd]
      rfl
    · cases e
  · cases e
/-! Maps. -/
/-- Whether two keys are the same. -/
def keyEqE (P : Program) (t : TypeId) (a b : Value) : Option Bool :=
  if flat a && flat b then pureRun P (Op.equal t a b) else none
def findE (P : Program) (t : TypeId) (k : Value) : List MapEntry → Nat → Option (Option Nat)
  | [], _ => some none
  | e :: es, i => match keyEqE P t k e.key with
    | some true => some (some i)
    | some false => findE P t k es (i + 1)
    | none => none
theorem sameNow_of {P : Program} {t : TypeId} {d : TypeDesc} (hd : P.underlying t = some d) {a b : Value} {r : Bool} (e : pureRun P (Op.equal t a b) = some r) : Instr.sameNow d a b = some r ∨ Instr.sameNow d a b = none := by
  have h := pureRun_run _ (default : World) e
  unfold Op.equal at h
  obtain ⟨n, hn⟩ : ∃ n, Op.maxDepth = n + 1 := ⟨9999, rfl⟩
  rw [hn] at h
  cases d <;> cases a <;> cases b <;> (try exact .inr rfl) <;> simp only [Instr.sameNow]
  · simp [Op.equalIn, run_underlying_of hd] at h; simp [h]
  · rename_i k1 k2 n1 k3 n2
    simp only [Op.equalIn, Sem.run_bind, run_underlying_of hd, Result.andThen_ok] at h
    split
    · rename_i hk; subst hk; simp at h; simp [h]
    · exact .inr rfl
  · simp [Op.equalIn, run_underlying_of hd] at h; simp [h]
inductive ERelM (μ : Mu) : List MapEntry → List MapEntry → Prop
  | nil : ERelM μ [] []
  | cons {a e : MapEntry} {es es' : List MapEntry} (hk : VRel μ a.key e.key) (hv : VRel μ a.val e.val) (hb : e.born = a.born) (t : ERelM μ es es') : ERelM μ (a :: es) (e :: es')
theorem ERelM.of_get {μ : Mu} : ∀ {es es' : List MapEntry}, es.length = es'.length →
    (∀ (i : Nat) (e : MapEntry), es[i]? = some e → ∃ e' : MapEntry, es'[i]? = some e' ∧ VRel μ e.key e'.key ∧ VRel μ e.val e'.val ∧ e'.born = e.born) → ERelM μ es es' := by
  intro es
  induction es with
  | nil => intro es' hl _; cases es' with
    | nil => exact .nil
    | cons => simp at hl
  | cons e es ih =>
    intro es' hl h
    cases es' with
    | nil => simp at hl
    | cons e' es' =>
      obtain ⟨e0, h1, h2, h3, h4⟩ := h 0 e (by simp)
      simp at h1; subst h1
      exact .cons h2 h3 h4 (ih (by simpa using hl) fun i x hx => by simpa using h (i + 1) x (by simpa using hx))
theorem ERelM.length {μ : Mu} {es es' : List MapEntry} (h : ERelM μ es es') : es'.length = es.length := by
  induction h with
  | nil => rfl
  | cons _ _ _ _ ih => simp [ih]
theorem ERelM.get {μ : Mu} {es es' : List MapEntry} (h : ERelM μ es es') : ∀ {i : Nat} {e : MapEntry}, es[i]? = some e → ∃ e' : MapEntry, es'[i]? = some e' ∧ VRel μ e.key e'.key ∧ VRel μ e.val e'.val ∧ e'.born = e.born := by
  induction h with
  | nil => intro i e h; simp at h
  | cons hk hv hb _ ih =>
    intro i e h
    cases i with
    | zero => simp at h; subst h; exact ⟨_, by simp, hk, hv, hb⟩
    | succ i => simpa using ih (by simpa using h)
/-- Of a map's entries, what a key is found at. -/
theorem findE_sound {P : Program} {μ : Mu} {t : TypeId} {d : TypeDesc} (hd : P.underlying t = some d) {k : Value} (w : World) : ∀ {es es' : List MapEntry}, ERelM μ es es' → ∀ {i : Nat} {r : Option Nat},
    findE P t k es i = some r →
    (match Instr.findNow d k es' i with
      | some x => x = r.bind fun j => (es'[j - i]?).map fun e => (j, e.val)
      | none => True) ∧
    (Instr.findAsking t k es' i).run P w = .ok (r.bind fun j => (es'[j - i]?).map fun e => (j, e.val)) w ∧ (∀ j, r = some j → i ≤ j ∧ j - i < es.length) := by
  intro es es' h
  induction h with
  | nil => intro i r e; simp only [findE, Option.some.injEq] at e; subst e; exact ⟨rfl, rfl, by simp⟩
  | @cons a0 e0 es es' hk hv hb ht ih =>
    intro i r e
    simp only [findE] at e
    cases hke : keyEqE P t k a0.key with
    | none => rw [hke] at e; cases e
    | some b =>
      rw [hke] at e
      unfold keyEqE at hke
      split at hke
      · rename_i hf
        simp only [Bool.and_eq_true] at hf
        have ek : e0.key = a0.key := hk.flat_eq hf.2
        have hsn := sameNow_of hd hke
        have hrun := pureRun_run _ w hke
        cases b with
        | true =>
          simp only [Option.some.injEq] at e; subst e
          refine ⟨?_, ?_, fun j hj => by cases hj; exact ⟨Nat.le_refl _, by simp⟩⟩
          · simp only [Instr.findNow, ek]
            rcases hsn with hs | hs <;> rw [hs] <;> simp
          · simp [Instr.findAsking, ek, hrun]
        | false =>
          simp only at e
          obtain ⟨q1, q2, q3⟩ := ih e
          have hshift : ∀ j, r = some j → j - i = (j - (i + 1)) + 1 := by intro j hj; have := (q3 j hj).1; omega
          have hval : (r.bind fun j => (es'[j - (i + 1)]?).map fun e => (j, e.val)) = r.bind fun j => ((e0 :: es')[j - i]?).map fun e => (j, e.val) := by
            cases r with
            | none => rfl
            | some j => simp only [Option.bind_some]; rw [hshift j rfl]; simp
          refine ⟨?_, ?_, fun j hj => ⟨by have := (q3 j hj).1; omega, by have := (q3 j hj).2; have := (q3 j hj).1; simp; omega⟩⟩
          · simp only [Instr.findNow, ek]
            rcases hsn with hs | hs
            · rw [hs]; simp only; rw [hval] at q1; exact q1
            · rw [hs]; trivial
          · simp only [Instr.findAsking, ek, Sem.run_bind, hrun, Result.andThen_ok, Bool.false_eq_true, if_false]
            rw [q2, hval]
      · cases hke
theorem findKey_sound {P : Program} {μ : Mu} {t : TypeId} {d : TypeDesc} (hd : P.underlying t = some d) {k : Value} (w : World) {es es' : List MapEntry} (h : ERelM μ es es') {r : Option Nat} (e : findE P t k es 0 = some r) :
    (Instr.findKey t k es').run P w = .ok (r.bind fun j => (es'[j]?).map fun e => (j, e.val)) w := by
  obtain ⟨q1, q2, _⟩ := findE_sound hd w h e
  simp only [Nat.sub_zero] at q1 q2
  simp only [Instr.findKey, Sem.run_bind, run_underlying_of hd, Result.andThen_ok]
  cases hn : Instr.findNow d k es' 0 with
  | some x => rw [hn] at q1; simp only at q1; rw [q1]; rfl
  | none => exact q2
def entriesE (h : Heap) (x : Value) : Option (List MapEntry) :=
  match x with
  | .map none => some []
  | .map (some r) => match h.get r with
    | some (.map es _) => some es
    | _ => none
  | _ => none
def lookupE (P : Program) (t : TypeId) (x k : Value) (ok : Bool) (h : Heap) : Option Value :=
  match P.underlying t with
  | some (.map kt el) =>
    match entriesE h x with
    | some es =>
      if flat k then
        match pureRun P (Instr.checkKey es.isEmpty 10000 kt k), P.underlying kt, findE P kt k es 0 with
        | some _, some _, some r =>
          match r with
          | some i => match es[i]? with
            | some e => some (if ok then .tuple #[e.val, .bool true] else e.val)
            | none => none
          | none => match P.info? el with
            | some inf => match inf.zero with
              | some z => if flat z then some (if ok then .tuple #[z, .bool false] else z) else none
              | none => none
            | none => none
        | _, _, _ => none
      else none
    | none => none
  | _ => none
/-- The entries of a map, on both sides. -/
theorem entries_sound {P : Program} {μ : Mu} {h : Heap} {n : Nat} {w : World} (r : Rel P μ h n w) {x x' : Value} (hx : VRel μ x x') {es : List MapEntry} (e : entriesE h x = some es) :
    ∃ es' : Array MapEntry, ERelM μ es es'.toList ∧ ((x' = .map none ∧ es' = #[]) ∨ (∃ b clock, x' = .map (some b) ∧ w.heap[b]? = some (.map es' clock))) := by
  unfold entriesE at e
  split at e
  · cases e; cases hx; exact ⟨#[], .nil, .inl ⟨rfl, rfl⟩⟩
  · rename_i b
    cases hx with
    | map hm =>
      rename_i m
      split at e
      · rename_i es0 ck hb
        cases e
        obtain ⟨m1, x1, f1, f2, f3⟩ := r.obj b _ hb
        rw [hm] at f1; cases f1
        cases x1 with
        | map es' clock =>
          obtain ⟨_, g2, g3, _⟩ := f3
          exact ⟨es', ERelM.of_get (by simpa using g2) (fun i e he => by simpa using g3 i e he), .inr ⟨_, clock, rfl, f2⟩⟩
        | _ => exact f3.elim
      · cases e
  · cases e
theorem lookupE_sound {P : Program} {μ : Mu} {h : Heap} {n : Nat} {w : World} (r : Rel P μ h n w) {t : TypeId} {x x' k k' v : Value} {ok : Bool} (hx : VRel μ x x') (hk : VRel μ k k') (e : lookupE P t x k ok h = some v) :
    ∃ v', (Instr.lookup t x' k' ok).run P w = .ok v' w ∧ VRel μ v v' := by
  unfold lookupE at e
  split at e
  · rename_i kt el hu
    split at e
    · rename_i es hes
      obtain ⟨es', he, hrun⟩ := entries_sound r hx hes
      split at e
      · rename_i hf
        rw [hk.flat_eq hf]
        split at e
        · rename_i u d rr hck hkt hfd
          have hfind := findKey_sound (P := P) hkt w he hfd
          have hemp : es'.isEmpty = es.isEmpty := by
            have := he.length
            cases es with
            | nil => simp at this; simp [this]
            | cons => simp at this; simp only [List.isEmpty_cons]; rw [Array.isEmpty_eq_false_iff]; intro h0; simp [h0] at this
          have hchk := pureRun_run _ w hck
          have run_get : ∀ {b : Nat} {clock : Nat}, w.heap[b]? = some (.map es' clock) → (getObj b).run P w = .ok (.map es' clock) w := by
            intro b clock hb; simp [getObj, Sem.run, hb]
          split at e
          · rename_i i
            split at e
            · rename_i en hen
              cases e
              obtain ⟨e', q1, q2, q3, _⟩ := he.get hen
              have hq : (Instr.lookup t x' k ok).run P w = .ok (if ok then .tuple #[e'.val, .bool true] else e'.val) w := by
                rw [Option.bind_some, q1, Option.map_some] at hfind
                rw [← hemp] at hchk
                rcases hrun with ⟨rfl, rfl⟩ | ⟨b, clock, rfl, hb⟩
                · simp only [Instr.lookup, Sem.run_bind, run_underlying_of hu, Result.andThen_ok, Sem.run_pure, hchk, hfind]
                · simp only [Instr.lookup, Sem.run_bind, run_underlying_of hu, Result.andThen_ok, Sem.run_pure, run_get hb, hchk, hfind]
              refine ⟨_, hq, ?_⟩
              cases ok with
              | true => exact pair_rel q3 (.bool true)
              | false => exact q3
            · cases e
          · split at e
            · rename_i inf hi
              split at e
              · rename_i z hz
                split at e
                · rename_i hfz
                  cases e
                  have hq : (Instr.lookup t x' k ok).run P w = .ok (if ok then .tuple #[z, .bool false] else z) w := by
                    rw [Option.bind_none] at hfind
                    rw [← hemp] at hchk
                    rcases hrun with ⟨rfl, rfl⟩ | ⟨b, clock, rfl, hb⟩
                    · simp only [Instr.lookup, Sem.run_bind, run_underlying_of hu, Result.andThen_ok, Sem.run_pure, hchk, hfind, run_zeroValue_of hi hz]
                    · simp only [Instr.lookup, Sem.run_bind, run_underlying_of hu, Result.andThen_ok, Sem.run_pure, run_get hb, hchk, hfind, run_zeroValue_of hi hz]
                  refine ⟨_, hq, ?_⟩
                  cases ok with
                  | true => exact pair_rel (.flat_self hfz) (.bool false)
                  | false => exact .flat_self hfz
                · cases e
              · cases e
            · cases e
        · cases e
      · cases e
    · cases e
  · cases e
/-- The length of a map. -/
def mapLenE (P : Program) (ts : List TypeId) (args : List Value) (h : Heap) : Option Value :=
  match ts, args with
  | t :: _, [x] => match P.underlying t, entriesE h x with
    | some (.map _ _), some es => some (.int .i64 es.length)
    | _, _ => none
  | _, _ => none
theorem mapLenE_sound {P : Program} {μ : Mu} {h : Heap} {n : Nat} {w : World} (r : Rel P μ h n w) {ts : Array TypeId} {args args' : List Value} {v : Value} (ha : LRel μ args args') (e : mapLenE P ts.toList args h = some v) (ty : TypeId) :
    (Builtin.len_ ts ty args'.toArray).run P w = .ok v w ∧ VRel μ v v := by
  unfold mapLenE at e
  split at e
  · rename_i t rest x hts
    cases ha with
    | cons hx ht =>
      cases ht
      have h0 : ts[0]? = some t := by rw [← Array.getElem?_toList, hts]; rfl
      split at e
      · rename_i kt el es hu hes
        cases e
        obtain ⟨es', he, hrun⟩ := entries_sound r hx hes
        have hl := he.length
        refine ⟨?_, .int _ _⟩
        rcases hrun with ⟨rfl, rfl⟩ | ⟨b, clock, rfl, hb⟩
        · simp at hl
          simp [Builtin.len_, h0, run_underlying_of hu, goInt, ← hl]
        · have hg : (getObj b).run P w = .ok (.map es' clock) w := by simp [getObj, Sem.run, hb]
          simp only [Array.length_toList] at hl
          simp [Builtin.len_, h0, run_underlying_of hu, goInt, hg, hl]
      · cases e
  · cases e
/-! All calm operations. -/
def calmE (P : Program) (o : Oper) (ρ : Operand → Value) (h : Heap) : Option Value :=
  match o.op with
  | .load t a => loadE P t (ρ a) h
  | .slice t x lo hi mx => sliceE P t (ρ x) (lo.map ρ) (hi.map ρ) (mx.map ρ) h
  | .lookup t x k ok => lookupE P t (ρ x) (ρ k) ok h
  | .convert s d x => match convE P s d (ρ x) with
    | some v => some v
    | none => strOfE P s d (ρ x) h
  | .call c => match c.callee with
    | .builtin b => match builtinE P b c.argTypes (c.args.toList.map ρ) with
      | some v => some v
      | none => match b with
        | .len => mapLenE P c.argTypes.toList (c.args.toList.map ρ) h
        | _ => none
    | _ => none
  | _ => pureE P o ρ
theorem ORelV_map {μ : Mu} {ρ ρ' : Operand → Value} (x : Option Operand) (h : ∀ y, x = Option.some y → VRel μ (ρ y) (ρ' y)) : ORelV μ (x.map ρ) (x.map ρ') := by
  cases x with
  | none => exact .none
  | some y => exact .some (h y rfl)
theorem calmE_sound {P : Program} {o : Oper} {ρ : Operand → Value} {h : Heap} {v : Value} (e : calmE P o ρ h = some v) : CalmVal P o ρ h v := by
  intro μ ρ' n w hρ hr
  obtain ⟨dst, op, ty, pos, after, guard⟩ := o
  cases op
  case load t a =>
    obtain ⟨v', q1, q2⟩ := loadE_sound hr (hρ a (by simp [Op.operands])) e
    exact ⟨v', by simp [execOp, q1], q2⟩
  case slice t x lo hi mx =>
    obtain ⟨v', q1, q2⟩ := sliceE_sound hr (hρ x (by simp [Op.operands])) (ORelV_map lo fun y hy => hρ y (by subst hy; simp [Op.operands]))
      (ORelV_map hi fun y hy => hρ y (by subst hy; simp [Op.operands])) (ORelV_map mx fun y hy => hρ y (by subst hy; simp [Op.operands])) e
    exact ⟨v', by simp [execOp, q1], q2⟩
  case lookup t x k ok =>
    obtain ⟨v', q1, q2⟩ := lookupE_sound hr (hρ x (by simp [Op.operands])) (hρ k (by simp [Op.operands])) e
    exact ⟨v', by simp [execOp, q1], q2⟩
  case convert s d x =>
    simp only [calmE] at e
    split at e
    · rename_i v0 e0
      cases e
      obtain ⟨q1, q2⟩ := convE_sound (hρ x (by simp [Op.operands])) e0 w
      exact ⟨_, by simp [execOp, q1], q2⟩
    · obtain ⟨q1, q2⟩ := strOfE_sound hr (hρ x (by simp [Op.operands])) e
      exact ⟨_, by simp [execOp, q1], q2⟩
  case call c =>
    simp only [calmE] at e
    split at e
    · rename_i b hb
      split at e
      · rename_i v0 e0
        cases e
        exact pureE_sound (o := ⟨dst, .call c, ty, pos, after, guard⟩) hρ (by simp only [pureE, hb]; exact e0) w
      · split at e
        · have ha := LRel.of_map c.args.toList (fun x hx => hρ x (by simp [Op.operands, Call.operands, hb]; simpa using hx))
          obtain ⟨q1, q2⟩ := mapLenE_sound hr ha e ty
          refine ⟨v, ?_, q2⟩
          have e1 : c.args.map ρ' = (c.args.toList.map ρ').toArray := by apply Array.ext'; simp
          simp only [execOp, resolve, hb, Sem.run_bind, Sem.run_pure, Result.andThen_ok, invoke, e1, builtin, q1]
        · cases e
    · cases e
  all_goals exact pureE_sound hρ e w
/-- 0: it acts; 1: it reads no memory; 2: it reads alone. -/
def kindOf (P : Program) (o : Oper) : Nat :=
  match o.op with
  | .load _ _ | .lookup .. => 2
  | .slice t .. => match P.underlying t with
    | some (.slice _) => 2
    | _ => 1
  | .convert s d _ => match P.underlying s, P.underlying d with
    | some (.slice _), _ => 2
    | some .string, some (.slice _) => 0
    | _, _ => 1
  | .call c => match c.callee with
    | .builtin b => match b with
      | .len => match c.argTypes.toList with
        | t :: _ => match P.underlying t with
          | some (.map _ _) => 2
          | _ => 1
        | [] => 0
      | .cap | .min | .max => 1
      | _ => 0
    | _ => 0
  | .move _ | .assign _ | .pick .. | .build .. | .nilCheck _ | .binOp .. | .unOp .. | .makeInterface .. | .makeFunc .. | .fieldAddr .. | .field .. | .indexAddr .. | .index .. | .typeAssert .. | .extract .. => 1
  | _ => 0
end Go.Abs
/- Operations that act: new memory, stores, maps. -/
namespace Go.Abs
open Go
inductive ARes where
  | val (v : Value)
  | skip
  | ent (f : FuncId) (args : List Value)
  | dfr (d : Deferred)
  | pan (v : Value)
/-- What an operation that acts comes to. -/
inductive NRel (μ : Mu) : ARes → Result Next → World → Prop
  | val {v v' : Value} {w : World} (h : VRel μ v v') : NRel μ (.val v) (.ok (.value v') w) w
  | skip {w : World} : NRel μ .skip (.ok .skip w) w
  | ent {f : FuncId} {a a' : List Value} {w : World} (h : LRel μ a a') : NRel μ (.ent f a) (.ok (.enter f a'.toArray) w) w
  | dfr {d d' : Deferred} {w : World} (h : DRel μ d d') : NRel μ (.dfr d) (.ok (.defer d') w) w
  | pan {v v' : Value} {w : World} (h : VRel μ v v') : NRel μ (.pan v) (.halt (.panic v') w) w
def ARun (P : Program) (s : Sem Next) (μ : Mu) (h : Heap) (n : Nat) (w : World) (x : ARes × Heap × Nat) : Prop :=
  ∃ μ' w', NRel μ' x.1 (s.run P w) w' ∧ Rel P μ' x.2.1 x.2.2 w' ∧ Grow μ h w μ' x.2.1 w' ∧ n ≤ x.2.2
theorem Rel.globs {P : Program} {μ : Mu} {h : Heap} {n : Nat} {w : World} (r : Rel P μ h n w) : P.globals.size ≤ n := by
  rcases Nat.lt_or_ge n P.globals.size with hlt | hge
  · obtain ⟨m, hm, _⟩ := r.glob n hlt
    rw [r.bound n (Nat.le_refl _)] at hm
    cases hm
  · exact hge
/-- A new row of cells, with more cells behind those that are told. -/
theorem Rel.row {P : Program} {μ : Mu} {h : Heap} {n : Nat} {w : World} (r : Rel P μ h n w) {xs xs' rest : List Value} (hx : LRel μ xs xs') (e : TypeId) (k : Nat) (whole : Bool) (hw : whole = true → rest = []) (fr : Nat × Nat) (hfr : xs'.length + rest.length ≤ fr.1 ∨ fr.2 ≤ fr.1) :
    Rel P (μ.set n ⟨w.heap.size, 0, xs'.length + rest.length, k⟩) (h.set n (.cells xs true ⟨e, k, whole⟩)) (n + 1) { w with heap := w.heap.push (.cells (xs' ++ rest).toArray e fr) } ∧
    Grow μ h w (μ.set n ⟨w.heap.size, 0, xs'.length + rest.length, k⟩) (h.set n (.cells xs true ⟨e, k, whole⟩)) { w with heap := w.heap.push (.cells (xs' ++ rest).toArray e fr) } := by
  have hle : μ.le (μ.set n ⟨w.heap.size, 0, xs'.length + rest.length, k⟩) := Mu.le_set (r.bound n (Nat.le_refl _))
  have hl := hx.length
  refine r.push _ _ _ rfl r.globs ⟨by simp, by simp; omega, ?_, ?_, rfl, rfl, ?_⟩
  · intro i v hi
    obtain ⟨v', h1, h2⟩ := hx.get hi
    refine ⟨v', ?_, h2.mono hle⟩
    have hlt := (List.getElem?_eq_some_iff.1 h1).1
    simp only [Nat.zero_add, List.getElem?_toArray]
    rw [List.getElem?_append_left hlt]; exact h1
  · intro _ i _ hi
    simp at hi
    omega
  · intro hwh
    have := hw hwh
    subst this
    simp [hl]
theorem VRel.new {μ : Mu} {n : Nat} {m : Im} (hoff : m.off = 0) (o : Nat) : VRel (μ.set n m) (.pointer (some ⟨n, o, none⟩)) (.pointer (some ⟨m.blk, o, none⟩)) := by
  have := VRel.ptr (μ := μ.set n m) o (Mu.set_same μ n m)
  rw [hoff, Nat.zero_add] at this
  exact this
theorem VRel.newSlice {μ : Mu} {n : Nat} {m : Im} (hoff : m.off = 0) (len cap cap' : Nat) (hc : (cap < U ∧ cap = cap') ∨ (cap = U ∧ len ≤ cap' ∧ cap' * m.k ≤ m.sz)) :
    VRel (μ.set n m) (.slice (some ⟨n, 0, none⟩) len cap) (.slice (some ⟨m.blk, 0, none⟩) len cap') := by
  have := VRel.slice (μ := μ.set n m) 0 len cap cap' (Mu.set_same μ n m) (by rw [hoff]; simpa using hc)
  rw [hoff] at this
  exact this
def zeroOf (P : Program) (t : TypeId) : Option Value :=
  match P.info? t with
  | some i => match i.zero with
    | some z => if z.cells.toList.all flat && flat z then some z else none
    | none => none
  | none => none
theorem zeroOf_run {P : Program} {t : TypeId} {z : Value} (e : zeroOf P t = some z) (w : World) : (zeroValue t).run P w = .ok z w ∧ (z.cells.toList.all flat) = true ∧ flat z = true := by
  unfold zeroOf at e
  split at e
  · rename_i i hi
    split at e
    · rename_i z0 hz
      split at e
      · rename_i hf
        cases e
        simp only [Bool.and_eq_true] at hf
        exact ⟨run_zeroValue_of hi hz w, hf.1, hf.2⟩
      · cases e
    · cases e
  · cases e
def allocE (P : Program) (t : TypeId) (h : Heap) (n : Nat) : Option (ARes × Heap × Nat) :=
  match zeroOf P t with
  | some z => some (.val (.pointer (some ⟨n, 0, none⟩)), h.set n (.cells z.cells.toList true ⟨t, 0, true⟩), n + 1)
  | none => none
theorem arr_of_list (c : Array Value) : (c.toList ++ []).toArray = c := by apply Array.ext'; simp
theorem allocE_sound {P : Program} {μ : Mu} {h : Heap} {n : Nat} {w : World} (r : Rel P μ h n w) {t : TypeId} {x : ARes × Heap × Nat} (e : allocE P t h n = some x) :
    ARun P (do pure (.value (← Instr.alloc t true (.tuple #[])))) μ h n w x := by
  unfold allocE at e
  split at e
  · rename_i z hz
    cases e
    obtain ⟨q1, q2, _⟩ := zeroOf_run hz w
    obtain ⟨g1, g2⟩ := r.row (rest := []) (LRel.flat q2) t 0 true (fun _ => rfl) (0, 0) (.inr (Nat.le_refl _))
    rw [arr_of_list] at g1 g2
    refine ⟨_, _, ?_, g1, g2, Nat.le_succ _⟩
    have : (do pure (.value (← Instr.alloc t true (.tuple #[]))) : Sem Next).run P w = .ok (.value (.pointer (some ⟨w.heap.size, 0, none⟩))) { w with heap := w.heap.push (.cells z.cells t (0, 0)) } := by
      simp [Instr.alloc, q1, newVar, newRow]
    rw [this]
    exact .val (.new rfl 0)
  · cases e
def boxE (t : TypeId) (v : Value) (h : Heap) (n : Nat) : ARes × Heap × Nat :=
  (.val (.pointer (some ⟨n, 0, none⟩)), h.set n (.cells v.cells.toList true ⟨t, 0, true⟩), n + 1)
theorem boxE_sound {P : Program} {μ : Mu} {h : Heap} {n : Nat} {w : World} (r : Rel P μ h n w) {t : TypeId} {v v' : Value} (hv : VRel μ v v') :
    ARun P (do pure (.value (← Instr.box t v'))) μ h n w (boxE t v h n) := by
  obtain ⟨g1, g2⟩ := r.row (rest := []) hv.cells.list t 0 true (fun _ => rfl) (0, 0) (.inr (Nat.le_refl _))
  rw [arr_of_list] at g1 g2
  refine ⟨_, _, ?_, g1, g2, Nat.le_succ _⟩
  have : (do pure (.value (← Instr.box t v')) : Sem Next).run P w = .ok (.value (.pointer (some ⟨w.heap.size, 0, none⟩))) { w with heap := w.heap.push (.cells v'.cells t (0, 0)) } := by
    simp [Instr.box, newVar, newRow]
  rw [this]
  exact .val (.new rfl 0)
/-- So many zero values. -/
def zerosE (z : List Value) (n : Nat) : List Value := (List.replicate n z).flatten
theorem length_zerosE (z : List Value) (n : Nat) : (zerosE z n).length = n * z.length := by simp [zerosE]
theorem get_zerosE (z : List Value) : ∀ (n i : Nat), i < n * z.length → (zerosE z n)[i]? = z[i % z.length]? := by
  intro n
  induction n with
  | zero => intro i h; omega
  | succ n ih =>
    intro i h
    have e : zerosE z (n + 1) = z ++ zerosE z n := by simp [zerosE, List.replicate_succ]
    rw [e]
    by_cases hi : i < z.length
    · rw [List.getElem?_append_left hi, Nat.mod_eq_of_lt hi]
    · have hi' : z.length ≤ i := by omega
      rw [List.getElem?_append_right hi', ih (i - z.length) (by rw [Nat.add_mul] at h; omega), ← Nat.mod_eq_sub_mod hi']
theorem zeros_model (z : Array Value) (n : Nat) : (Array.range (n * z.size)).map (fun i => z[i % z.size]!) = (zerosE z.toList n).toArray := by
  apply Array.ext'
  apply List.ext_getElem?
  intro i
  simp only [Array.toList_map, Array.toList_range, List.getElem?_map]
  by_cases h : i < n * z.size
  · rw [get_zerosE _ _ _ (by simpa using h)]
    have hz : 0 < z.size := by
      rcases Nat.eq_zero_or_pos z.size with h0 | h0
      · rw [h0] at h; omega
      · exact h0
    have hm : i % z.size < z.size := Nat.mod_lt _ hz
    rw [List.getElem?_range h]
    simp [hm]
  · rw [List.getElem?_eq_none (by simp; omega), List.getElem?_eq_none (by rw [length_zerosE]; simp; omega)]
    rfl
theorem flat_zerosE {z : List Value} (h : (z.all flat) = true) (n : Nat) : ((zerosE z n).all flat) = true := by
  rw [List.all_eq_true] at *
  intro x hx
  simp only [zerosE, List.mem_flatten, List.mem_replicate] at hx
  obtain ⟨l, ⟨_, rfl⟩, hx⟩ := hx
  exact h x hx
def buildSliceE (P : Program) (t : TypeId) (len : Nat) (parts : List (Nat × Value)) (h : Heap) (n : Nat) : Option (ARes × Heap × Nat) :=
  match P.underlying t with
  | some (.slice elem) =>
    match P.info? elem, zeroOf P elem with
    | some i, some z =>
      if z.cells.toList.length = i.size ∧ len * i.size ≤ 2 ^ 24 ∧ len ≤ 2 ^ 24 then
        match fillE (fun j => some (j * i.size, i.size)) (zerosE z.cells.toList len) parts with
        | some cells => some (.val (.slice (some ⟨n, 0, none⟩) len len), h.set n (.cells cells true ⟨elem, 0, true⟩), n + 1)
        | none => none
      else none
    | _, _ => none
  | _ => none
theorem buildSliceE_sound {P : Program} {μ : Mu} {h : Heap} {n : Nat} {w : World} (r : Rel P μ h n w) {t : TypeId} {len : Nat} {ps ps' : List (Nat × Value)} (hp : PRel μ ps ps') {x : ARes × Heap × Nat} (e : buildSliceE P t len ps h n = some x) :
    ARun P (do pure (.value (← Instr.buildSlice t len ps'.toArray))) μ h n w x := by
  unfold buildSliceE at e
  split at e
  · rename_i elem hu
    split at e
    · rename_i i z hi hz
      split at e
      · rename_i hc
        obtain ⟨c1, c2, c3⟩ := hc
        split at e
        · rename_i cells hfl
          cases e
          obtain ⟨q1, q2, _⟩ := zeroOf_run hz w
          obtain ⟨cells', p1, p2⟩ := fillE_sound hp (LRel.flat (flat_zerosE q2 len)) hfl
          obtain ⟨g1, g2⟩ := r.row (rest := []) p2 elem 0 true (fun _ => rfl) (0, 0) (.inr (Nat.le_refl _))
          rw [List.append_nil] at g1 g2
          refine ⟨_, _, ?_, g1, g2, Nat.le_succ _⟩
          have hzs : z.cells.size = i.size := by simpa using c1
          have hmap : (Array.range (len * i.size)).map (fun j => (if len * i.size = 0 then #[] else z.cells)[j % (if len * i.size = 0 then #[] else z.cells).size]!) = (zerosE z.cells.toList len).toArray := by
            by_cases h0 : len * i.size = 0
            · rw [h0]
              have : (zerosE z.cells.toList len) = [] := by
                apply List.eq_nil_of_length_eq_zero
                rw [length_zerosE, c1]; exact h0
              rw [this]
              simp
            · simp only [if_neg h0]
              rw [← hzs]; exact zeros_model _ _
          have : (do pure (.value (← Instr.buildSlice t len ps'.toArray)) : Sem Next).run P w = .ok (.value (.slice (some ⟨w.heap.size, 0, none⟩) len len)) { w with heap := w.heap.push (.cells cells'.toArray elem (0, 0)) } := by
            have hgt : ¬ (len * i.size > 2 ^ 24) := by omega
            by_cases h0 : len * i.size = 0
            · have hz0 : zerosE z.cells.toList len = [] := by
                apply List.eq_nil_of_length_eq_zero
                rw [length_zerosE, c1]; exact h0
              rw [hz0] at p1
              have hr1 : (Array.range 0).map (fun _ => (default : Value)) = #[] := by apply Array.ext'; simp
              simp only [Instr.buildSlice, Sem.run_bind, run_underlying_of hu, Result.andThen_ok, run_sizeOf_of hi, h0, if_true, Sem.run_pure]
              simp [hr1, p1, newRow]
            · simp only [h0, if_false] at hmap
              simp only [Instr.buildSlice, Sem.run_bind, run_underlying_of hu, Result.andThen_ok, run_sizeOf_of hi, hgt, if_false, h0, q1, Sem.run_pure, hmap, p1, newRow, run_newObj]
          rw [this]
          exact .val (.newSlice rfl _ _ _ (.inl ⟨by unfold U; omega, rfl⟩))
        · cases e
      · cases e
    · cases e
  · cases e
end Go.Abs
/- Operations that act: makes, appends, copies, maps. -/
namespace Go.Abs
open Go
theorem wrap64_in {x : Int} (h0 : 0 ≤ x) (h1 : x < 9223372036854775808) : IntKind.i64.wrap x = x := by
  have e : IntKind.i64.wrap x = if (x % 18446744073709551616) ≥ 9223372036854775808 then x % 18446744073709551616 - 18446744073709551616 else x % 18446744073709551616 := by
    simp [IntKind.wrap, IntKind.bits, IntKind.signed]
  rw [e]
  have : x % 18446744073709551616 = x := Int.emod_eq_of_lt h0 (by omega)
  rw [this, if_neg (by omega)]
def makeSliceE (P : Program) (t : TypeId) (len cap : Value) (h : Heap) (n : Nat) : Option (ARes × Heap × Nat) :=
  match P.underlying t, len, cap with
  | some (.slice elem), .int _ l, .int _ c =>
    match P.info? elem, zeroOf P elem with
    | some i, some z =>
      if z.cells.toList.length = i.size ∧ 0 ≤ l ∧ l ≤ c ∧ c < 2 ^ 47 ∧ i.bytes * c ≤ 2 ^ 47 then
        some (.val (.slice (some ⟨n, 0, none⟩) l.toNat c.toNat), h.set n (.cells (zerosE z.cells.toList c.toNat) true ⟨elem, 0, true⟩), n + 1)
      else none
    | _, _ => none
  | _, _, _ => none
theorem makeSliceE_sound {P : Program} {μ : Mu} {h : Heap} {n : Nat} {w : World} (r : Rel P μ h n w) {t : TypeId} {l l' c c' : Value} (hl : VRel μ l l') (hc : VRel μ c c') {x : ARes × Heap × Nat} (e : makeSliceE P t l c h n = some x) :
    ARun P (do pure (.value (← Instr.makeSlice t l' c'))) μ h n w x := by
  unfold makeSliceE at e
  split at e
  · rename_i elem k1 l k2 c hu
    cases hl; cases hc
    split at e
    · rename_i i z hi hz
      split at e
      · rename_i hcnd
        obtain ⟨c1, c2, c3, c4, c5⟩ := hcnd
        cases e
        obtain ⟨q1, q2, _⟩ := zeroOf_run hz w
        obtain ⟨g1, g2⟩ := r.row (rest := []) (LRel.flat (flat_zerosE q2 c.toNat)) elem 0 true (fun _ => rfl) (0, 0) (.inr (Nat.le_refl _))
        rw [List.append_nil] at g1 g2
        refine ⟨_, _, ?_, g1, g2, Nat.le_succ _⟩
        have hzs : z.cells.size = i.size := by simpa using c1
        have hwl : IntKind.i64.wrap l = l := wrap64_in c2 (by omega)
        have hwc : IntKind.i64.wrap c = c := wrap64_in (by omega) (by omega)
        have hcond : (((decide (c < 0) || decide ((i.bytes : Int) * c > 2 ^ 48)) || decide (l < 0)) || decide (l > c)) = false := by
          simp; omega
        have hz1 : ∀ (X : Sem (Array Value)), X = (if c.toNat * i.size = 0 then pure #[] else do pure (← zeroValue elem).cells) → X.run P w = .ok (if c.toNat * i.size = 0 then #[] else z.cells) w := by
          intro X hX; rw [hX]; split <;> simp [q1]
        have : (do pure (.value (← Instr.makeSlice t (.int k1 l) (.int k2 c))) : Sem Next).run P w = .ok (.value (.slice (some ⟨w.heap.size, 0, none⟩) l.toNat c.toNat)) { w with heap := w.heap.push (.cells (zerosE z.cells.toList c.toNat).toArray elem (0, 0)) } := by
          by_cases h0 : c.toNat * i.size = 0
          · have hz0 : zerosE z.cells.toList c.toNat = [] := by
              apply List.eq_nil_of_length_eq_zero
              rw [length_zerosE, c1]; exact h0
            have hr1 : (Array.range 0).map (fun _ => (default : Value)) = #[] := by apply Array.ext'; simp
            simp only [Instr.makeSlice, Sem.run_bind, run_underlying_of hu, Result.andThen_ok, asInt, asIntOf, Sem.run_pure, run_typeInfo_of hi, hwl, hwc, hcond, run_sizeOf_of hi, run_askRoom, h0, if_true, Bool.false_eq_true, if_false]
            simp [hr1, newRow, hz0]
          · have hmap := zeros_model z.cells c.toNat
            rw [hzs] at hmap
            simp only [Instr.makeSlice, Sem.run_bind, run_underlying_of hu, Result.andThen_ok, asInt, asIntOf, Sem.run_pure, run_typeInfo_of hi, hwl, hwc, hcond, run_sizeOf_of hi, run_askRoom, h0, q1, Bool.false_eq_true, if_false, hzs, hmap, newRow, run_newObj]
        rw [this]
        exact .val (.newSlice rfl _ _ _ (.inl ⟨by unfold U; omega, rfl⟩))
      · cases e
    · cases e
  · cases e
def makeMapE (P : Program) (t : TypeId) (hint : Option Value) (h : Heap) (n : Nat) : Option (ARes × Heap × Nat) :=
  match hint, P.underlying t with
  | none, _ => some (.val (.map (some n)), h.set n (.map [] 0), n + 1)
  | some (.int _ _), some (.map _ _) => some (.val (.map (some n)), h.set n (.map [] 0), n + 1)
  | _, _ => none
theorem makeMapE_sound {P : Program} {μ : Mu} {h : Heap} {n : Nat} {w : World} (r : Rel P μ h n w) {t : TypeId} {x x' : Option Value} (hx : ORelV μ x x') {y : ARes × Heap × Nat} (e : makeMapE P t x h n = some y) :
    ARun P (do pure (.value (← Instr.makeMap t x'))) μ h n w y := by
  obtain ⟨g1, g2⟩ := r.push (.map [] 0) (.map #[] 0) ⟨w.heap.size, 0, 0, 0⟩ rfl r.globs ⟨rfl, rfl, by simp, rfl⟩
  have hv : VRel (μ.set n ⟨w.heap.size, 0, 0, 0⟩) (.map (some n)) (.map (some w.heap.size)) := .map (m := ⟨w.heap.size, 0, 0, 0⟩) (Mu.set_same _ _ _)
  unfold makeMapE at e
  split at e
  · cases e
    cases hx
    refine ⟨_, _, ?_, g1, g2, Nat.le_succ _⟩
    have : (do pure (.value (← Instr.makeMap t none)) : Sem Next).run P w = .ok (.value (.map (some w.heap.size))) { w with heap := w.heap.push (.map #[] 0) } := by
      simp [Instr.makeMap]
    rw [this]
    exact .val hv
  · rename_i k i kt el hu
    cases e
    cases hx with
    | some hx =>
      cases hx
      refine ⟨_, _, ?_, g1, g2, Nat.le_succ _⟩
      have : (do pure (.value (← Instr.makeMap t (some (.int k i)))) : Sem Next).run P w = .ok (.value (.map (some w.heap.size))) { w with heap := w.heap.push (.map #[] 0) } := by
        simp [Instr.makeMap, run_underlying_of hu, asInt, asIntOf]
      rw [this]
      exact .val hv
  · cases e
def storeOpE (P : Program) (t : TypeId) (a x : Value) (h : Heap) (n : Nat) : Option (ARes × Heap × Nat) :=
  match storeE P t a x h with
  | some h' => some (.skip, h', n)
  | none => none
theorem storeOpE_sound {P : Program} {μ : Mu} {h : Heap} {n : Nat} {w : World} (r : Rel P μ h n w) {t : TypeId} {a a' v v' : Value} (ha : VRel μ a a') (hv : VRel μ v v') {y : ARes × Heap × Nat} (e : storeOpE P t a v h n = some y) :
    ARun P (do Instr.storeAt t a' v'; pure .skip) μ h n w y := by
  unfold storeOpE at e
  split at e
  · rename_i h' hs
    cases e
    obtain ⟨w', q1, q2, q3⟩ := storeE_sound r ha hv hs
    refine ⟨μ, w', ?_, q2, q3, Nat.le_refl _⟩
    have : (do Instr.storeAt t a' v'; pure .skip : Sem Next).run P w = .ok .skip w' := by simp [q1]
    rw [this]
    exact .skip
  · cases e
/-! Maps: an entry set. -/
/-- An entry at a place is turned, on both sides. -/
theorem mapTurn {P : Program} {μ : Mu} {h : Heap} {n : Nat} {w : World} (r : Rel P μ h n w) {b i clock : Nat} {m0 : Im} {es : List MapEntry} {es' : Array MapEntry} {k v v' : Value} (hb : h.get b = some (.map es clock)) (hmu : μ b = some m0)
    (f2 : w.heap[m0.blk]? = some (.map es' clock)) (f3 : ORel μ (.map es clock) (.map es' clock) m0) (hf : flat k = true) (hv : VRel μ v v') :
    Rel P μ (h.set b (.map (es.modify i fun e => { e with key := k, val := v }) clock)) n { w with heap := w.heap.setIfInBounds m0.blk (.map (es'.modify i fun e => { e with key := k, val := v' }) clock) } ∧
    Grow μ h w μ (h.set b (.map (es.modify i fun e => { e with key := k, val := v }) clock)) { w with heap := w.heap.setIfInBounds m0.blk (.map (es'.modify i fun e => { e with key := k, val := v' }) clock) } := by
  obtain ⟨g0, g1, g2, _⟩ := f3
  refine r.turn (o' := .map (es.modify i fun e => { e with key := k, val := v }) clock) (.map (es'.modify i fun e => { e with key := k, val := v' }) clock) hb rfl hmu ⟨g0, ?_, ?_, rfl⟩ rfl rfl rfl rfl
  · rw [List.length_modify, Array.size_modify, ← g1]
  · intro j a hj
    rw [List.getElem?_modify] at hj
    cases hej : es[j]? with
    | none => rw [hej] at hj; simp at hj
    | some ej =>
      rw [hej] at hj
      obtain ⟨ej', p1, p2, p3, p4⟩ := g2 j ej hej
      by_cases hij : i = j
      · subst hij
        simp at hj
        subst hj
        exact ⟨{ ej' with key := k, val := v' }, by rw [Array.getElem?_modify]; simp [p1], .flat_self hf, hv, p4⟩
      · simp [hij] at hj
        subst hj
        exact ⟨ej', by rw [Array.getElem?_modify]; simp [hij, p1], p2, p3, p4⟩
/-- An entry comes in behind the others, on both sides. -/
theorem mapPush {P : Program} {μ : Mu} {h : Heap} {n : Nat} {w : World} (r : Rel P μ h n w) {b clock : Nat} {m0 : Im} {es : List MapEntry} {es' : Array MapEntry} {k v v' : Value} (hb : h.get b = some (.map es clock)) (hmu : μ b = some m0)
    (f3 : ORel μ (.map es clock) (.map es' clock) m0) (hf : flat k = true) (hv : VRel μ v v') :
    Rel P μ (h.set b (.map (es ++ [{ key := k, val := v, born := clock }]) (clock + 1))) n { w with heap := w.heap.setIfInBounds m0.blk (.map (es'.push { key := k, val := v', born := clock }) (clock + 1)) } ∧
    Grow μ h w μ (h.set b (.map (es ++ [{ key := k, val := v, born := clock }]) (clock + 1))) { w with heap := w.heap.setIfInBounds m0.blk (.map (es'.push { key := k, val := v', born := clock }) (clock + 1)) } := by
  obtain ⟨g0, g1, g2, _⟩ := f3
  refine r.turn (o' := .map (es ++ [{ key := k, val := v, born := clock }]) (clock + 1)) (.map (es'.push { key := k, val := v', born := clock }) (clock + 1)) (w' := { w with heap := w.heap.setIfInBounds m0.blk (.map (es'.push { key := k, val := v', born := clock }) (clock + 1)) }) hb rfl hmu ⟨g0, by simp [g1], ?_, rfl⟩ rfl rfl rfl rfl
  intro j a hj
  by_cases hlt : j < es.length
  · rw [List.getElem?_append_left hlt] at hj
    obtain ⟨e', p1, p2, p3, p4⟩ := g2 j a hj
    exact ⟨e', by rw [Array.getElem?_push, if_neg (by omega)]; exact p1, p2, p3, p4⟩
  · rw [List.getElem?_append_right (by omega)] at hj
    have hj0 : j = es.length := by
      have := (List.getElem?_eq_some_iff.1 hj).1
      simp at this; omega
    subst hj0
    simp at hj
    subst hj
    exact ⟨{ key := k, val := v', born := clock }, by rw [Array.getElem?_push, if_pos g1], .flat_self hf, hv, rfl⟩
/-- What a map's block is on both sides. -/
theorem Rel.mapAt {P : Program} {μ : Mu} {h : Heap} {n : Nat} {w : World} (r : Rel P μ h n w) {b clock : Nat} {m0 : Im} {es : List MapEntry} (hb : h.get b = some (.map es clock)) (hmu : μ b = some m0) :
    ∃ es' : Array MapEntry, w.heap[m0.blk]? = some (.map es' clock) ∧ ORel μ (.map es clock) (.map es' clock) m0 ∧ ERelM μ es es'.toList ∧ (getObj m0.blk).run P w = .ok (.map es' clock) w ∧
      ∀ x, (setObj m0.blk x).run P w = .ok () { w with heap := w.heap.setIfInBounds m0.blk x } := by
  obtain ⟨m1, x1, f1, f2, f3⟩ := r.obj b _ hb
  rw [hmu] at f1; cases f1
  cases x1 with
  | map es' clock' =>
    have hc := f3.2.2.2
    subst hc
    exact ⟨es', f2, f3, ERelM.of_get (by simpa using f3.2.1) (fun i e he => by simpa using f3.2.2.1 i e he), by simp [getObj, Sem.run, f2], fun x => by simp [setObj, Sem.run, f2]⟩
  | _ => exact f3.elim
def mapUpdateE (P : Program) (t : TypeId) (m k v : Value) (h : Heap) (n : Nat) : Option (ARes × Heap × Nat) :=
  match P.underlying t, m with
  | some (.map kt _), .map (some r) =>
    match h.get r with
    | some (.map es clock) =>
      if flat k then
        match pureRun P (Instr.checkKey false 10000 kt k), P.underlying kt, findE P kt k es 0 with
        | some _, some _, some (some i) => match es[i]? with
          | some e => if flat e.key && Instr.sameBits 10000 e.key k then some (.skip, h.set r (.map (es.modify i fun e => { e with key := k, val := v }) clock), n) else none
          | none => none
        | some _, some _, some none => some (.skip, h.set r (.map (es ++ [{ key := k, val := v, born := clock }]) (clock + 1)), n)
        | _, _, _ => none
      else none
    | _ => none
  | _, _ => none
theorem mapUpdateE_sound {P : Program} {μ : Mu} {h : Heap} {n : Nat} {w : World} (r : Rel P μ h n w) {t : TypeId} {m m' k k' v v' : Value} (hm : VRel μ m m') (hk : VRel μ k k') (hv : VRel μ v v') {y : ARes × Heap × Nat} (e : mapUpdateE P t m k v h n = some y) :
    ARun P (do Instr.mapUpdate t m' k' v'; pure .skip) μ h n w y := by
  unfold mapUpdateE at e
  split at e
  · rename_i kt el b hu
    cases hm with
    | map hmu =>
      rename_i m0
      split at e
      · rename_i es clock hb
        split at e
        · rename_i hf
          rw [hk.flat_eq hf]
          obtain ⟨es', f2, f3, he, hget, hset⟩ := r.mapAt hb hmu
          split at e
          · rename_i u d i hck hkt hfd
            have hfind := findKey_sound (P := P) hkt w he hfd
            have hchk := pureRun_run _ w hck
            split at e
            · rename_i en hen
              split at e
              · rename_i hsame
                simp only [Bool.and_eq_true] at hsame
                cases e
                obtain ⟨e', q1, q2, q3, q4⟩ := he.get hen
                have hq1 : es'[i]? = some e' := by simpa using q1
                rw [Option.bind_some, q1, Option.map_some] at hfind
                have hkey : e'.key = en.key := q2.flat_eq hsame.1
                have hstay : (Instr.keyThatStays (((es'[i]?).map (·.key)).getD k) k).run P w = .ok k w := by
                  rw [hq1]
                  simp [Instr.keyThatStays, hkey, hsame.2]
                have ht := mapTurn r (i := i) hb hmu f2 f3 hf hv
                refine ⟨μ, _, ?_, ht.1, ht.2, Nat.le_refl _⟩
                have hrun : (do Instr.mapUpdate t (.map (some m0.blk)) k v'; pure .skip : Sem Next).run P w = .ok .skip { w with heap := w.heap.setIfInBounds m0.blk (.map (es'.modify i fun e => { e with key := k, val := v' }) clock) } := by
                  simp only [Instr.mapUpdate, Sem.run_bind, run_underlying_of hu, Result.andThen_ok, hget, hchk, hfind, hstay]
                  rw [hset _]
                  rfl
                rw [hrun]
                exact .skip
              · cases e
            · cases e
          · rename_i u d hck hkt hfd
            have hfind := findKey_sound (P := P) hkt w he hfd
            have hchk := pureRun_run _ w hck
            cases e
            rw [Option.bind_none] at hfind
            have ht := mapPush r hb hmu f3 hf hv
            refine ⟨μ, _, ?_, ht.1, ht.2, Nat.le_refl _⟩
            have hrun : (do Instr.mapUpdate t (.map (some m0.blk)) k v'; pure .skip : Sem Next).run P w = .ok .skip { w with heap := w.heap.setIfInBounds m0.blk (.map (es'.push { key := k, val := v', born := clock }) (clock + 1)) } := by
              simp only [Instr.mapUpdate, Sem.run_bind, run_underlying_of hu, Result.andThen_ok, hget, hchk, hfind]
              rw [hset _]
              rfl
            rw [hrun]
            exact .skip
          · cases e
        · cases e
      · cases e
  · cases e
/-- An entry is opened, to be stored to. -/
def mapEntryE (P : Program) (t : TypeId) (m k : Value) (h : Heap) (n : Nat) : Option (ARes × Heap × Nat) :=
  match P.underlying t, m with
  | some (.map kt el), .map (some r) =>
    match h.get r with
    | some (.map es clock) =>
      if flat k then
        match pureRun P (Instr.checkKey false 10000 kt k), P.underlying kt, findE P kt k es 0 with
        | some _, some _, some (some i) => match es[i]? with
          | some e => if flat e.key && Instr.sameBits 10000 e.key k then some (.val (.tuple #[e.val, .int .i64 e.born]), h.set r (.map (es.modify i fun e => { e with key := k, val := e.val }) clock), n) else none
          | none => none
        | some _, some _, some none => match P.info? el with
          | some inf => match inf.zero with
            | some z => if flat z then some (.val (.tuple #[z, .int .i64 clock]), h.set r (.map (es ++ [{ key := k, val := z, born := clock }]) (clock + 1)), n) else none
            | none => none
          | none => none
        | _, _, _ => none
      else none
    | _ => none
  | _, _ => none
theorem modify_val (es : List MapEntry) {i : Nat} {e0 : MapEntry} (h : es[i]? = some e0) (k : Value) : (es.modify i fun e => { e with key := k, val := e.val }) = es.modify i fun e => { e with key := k, val := e0.val } := by
  apply List.ext_getElem?
  intro j
  rw [List.getElem?_modify, List.getElem?_modify]
  by_cases hij : i = j
  · subst hij; simp [h]
  · simp [hij]
theorem modify_val_arr (es : Array MapEntry) {i : Nat} {e0 : MapEntry} (h : es[i]? = some e0) (k : Value) : (es.modify i fun e => { e with key := k }) = es.modify i fun e => { e with key := k, val := e0.val } := by
  apply Array.ext_getElem?
  intro j
  rw [Array.getElem?_modify, Array.getElem?_modify]
  by_cases hij : i = j
  · subst hij; simp [h]
  · simp [hij]
theorem mapEntryE_sound {P : Program} {μ : Mu} {h : Heap} {n : Nat} {w : World} (r : Rel P μ h n w) {t : TypeId} {m m' k k' : Value} (hm : VRel μ m m') (hk : VRel μ k k') {y : ARes × Heap × Nat} (e : mapEntryE P t m k h n = some y) :
    ARun P (do pure (.value (← Instr.mapEntry t m' k'))) μ h n w y := by
  unfold mapEntryE at e
  split at e
  · rename_i kt el b hu
    cases hm with
    | map hmu =>
      rename_i m0
      split at e
      · rename_i es clock hb
        split at e
        · rename_i hf
          rw [hk.flat_eq hf]
          obtain ⟨es', f2, f3, he, hget, hset⟩ := r.mapAt hb hmu
          split at e
          · rename_i u d i hck hkt hfd
            have hfind := findKey_sound (P := P) hkt w he hfd
            have hchk := pureRun_run _ w hck
            split at e
            · rename_i en hen
              split at e
              · rename_i hsame
                simp only [Bool.and_eq_true] at hsame
                cases e
                obtain ⟨e', q1, q2, q3, q4⟩ := he.get hen
                have hq1 : es'[i]? = some e' := by simpa using q1
                rw [Option.bind_some, q1, Option.map_some] at hfind
                have hkey : e'.key = en.key := q2.flat_eq hsame.1
                have hstay : (Instr.keyThatStays (((es'[i]?).map (·.key)).getD k) k).run P w = .ok k w := by
                  rw [hq1]
                  simp [Instr.keyThatStays, hkey, hsame.2]
                have ht := mapTurn r (i := i) (k := k) hb hmu f2 f3 hf q3
                rw [modify_val es hen]
                refine ⟨μ, _, ?_, ht.1, ht.2, Nat.le_refl _⟩
                have hrun : (do pure (.value (← Instr.mapEntry t (.map (some m0.blk)) k)) : Sem Next).run P w = .ok (.value (.tuple #[e'.val, .int .i64 e'.born])) { w with heap := w.heap.setIfInBounds m0.blk (.map (es'.modify i fun e => { e with key := k, val := e'.val }) clock) } := by
                  simp only [Instr.mapEntry, Sem.run_bind, run_underlying_of hu, Result.andThen_ok, hget, hchk, hfind, hstay]
                  rw [hset _, modify_val_arr es' hq1, hq1]
                  rfl
                rw [hrun, q4]
                exact .val (LRel.arr (.cons q3 (.cons (.int _ _) .nil))).tuple
              · cases e
            · cases e
          · rename_i u d hck hkt hfd
            have hfind := findKey_sound (P := P) hkt w he hfd
            have hchk := pureRun_run _ w hck
            rw [Option.bind_none] at hfind
            split at e
            · rename_i inf hi
              split at e
              · rename_i z hz
                split at e
                · rename_i hfz
                  cases e
                  have ht := mapPush r (k := k) hb hmu f3 hf (VRel.flat_self hfz)
                  refine ⟨μ, _, ?_, ht.1, ht.2, Nat.le_refl _⟩
                  have hrun : (do pure (.value (← Instr.mapEntry t (.map (some m0.blk)) k)) : Sem Next).run P w = .ok (.value (.tuple #[z, .int .i64 clock])) { w with heap := w.heap.setIfInBounds m0.blk (.map (es'.push { key := k, val := z, born := clock }) (clock + 1)) } := by
                    simp only [Instr.mapEntry, Sem.run_bind, run_underlying_of hu, Result.andThen_ok, hget, hchk, hfind, run_zeroValue_of hi hz]
                    rw [hset _]
                    rfl
                  rw [hrun]
                  exact .val (LRel.arr (.cons (VRel.flat_self hfz) (.cons (.int _ _) .nil))).tuple
                · cases e
              · cases e
            · cases e
          · cases e
        · cases e
      · cases e
  · cases e
def entryStoreE (m s v : Value) (h : Heap) (n : Nat) : Option (ARes × Heap × Nat) :=
  match m, s with
  | .map (some r), .int .i64 born =>
    match h.get r with
    | some (.map es clock) => match es.findIdx? (fun e => (e.born : Int) == born) with
      | some i => match es[i]? with
        | some e => if flat e.key then some (.skip, h.set r (.map (es.modify i fun e => { e with key := e.key, val := v }) clock), n) else none
        | none => none
      | none => none
    | _ => none
  | _, _ => none
theorem findIdx_rel {μ : Mu} {es es' : List MapEntry} (h : ERelM μ es es') (born : Int) : es'.findIdx? (fun e => (e.born : Int) == born) = es.findIdx? (fun e => (e.born : Int) == born) := by
  induction h with
  | nil => rfl
  | cons hk hv hb _ ih => simp only [List.findIdx?_cons, hb, ih]
theorem entryStoreE_sound {P : Program} {μ : Mu} {h : Heap} {n : Nat} {w : World} (r : Rel P μ h n w) {t : TypeId} {m m' s s' v v' : Value} (hm : VRel μ m m') (hs : VRel μ s s') (hv : VRel μ v v') {y : ARes × Heap × Nat} (e : entryStoreE m s v h n = some y) :
    ARun P (do Instr.entryStore t m' s' v'; pure .skip) μ h n w y := by
  unfold entryStoreE at e
  split at e
  · rename_i b born
    cases hs
    cases hm with
    | map hmu =>
      rename_i m0
      split at e
      · rename_i es clock hb
        obtain ⟨es', f2, f3, he, hget, hset⟩ := r.mapAt hb hmu
        split at e
        · rename_i i hi
          split at e
          · rename_i en hen
            split at e
            · rename_i hfk
              cases e
              obtain ⟨e', q1, q2, q3, q4⟩ := he.get hen
              have hq1 : es'[i]? = some e' := by simpa using q1
              have hkey : e'.key = en.key := q2.flat_eq hfk
              have ht := mapTurn r (i := i) (k := en.key) hb hmu f2 f3 hfk hv
              have e1 : (es.modify i fun e => { e with key := e.key, val := v }) = es.modify i fun e => { e with key := en.key, val := v } := by
                apply List.ext_getElem?
                intro j
                rw [List.getElem?_modify, List.getElem?_modify]
                by_cases hij : i = j
                · subst hij; simp [hen]
                · simp [hij]
              have e2 : (es'.modify i fun e => { e with val := v' }) = es'.modify i fun e => { e with key := en.key, val := v' } := by
                apply Array.ext_getElem?
                intro j
                rw [Array.getElem?_modify, Array.getElem?_modify]
                by_cases hij : i = j
                · subst hij; simp [hq1, hkey]
                · simp [hij]
              rw [e1]
              refine ⟨μ, _, ?_, ht.1, ht.2, Nat.le_refl _⟩
              have hfi : es'.findIdx? (fun e => (e.born : Int) == born) = some i := by
                have := findIdx_rel he born
                rw [hi] at this
                rw [← this, ← List.findIdx?_toArray, Array.toArray_toList]
              have hrun : (do Instr.entryStore t (.map (some m0.blk)) (.int .i64 born) v'; pure .skip : Sem Next).run P w = .ok .skip { w with heap := w.heap.setIfInBounds m0.blk (.map (es'.modify i fun e => { e with key := en.key, val := v' }) clock) } := by
                simp only [Instr.entryStore, Sem.run_bind, Result.andThen_ok, hget, asInt, asIntOf, Sem.run_pure, hfi]
                rw [hset _, e2]
                rfl
              rw [hrun]
              exact .skip
            · cases e
          · cases e
        · cases e
      · cases e
  · cases e
end Go.Abs
/- Appends, copies, bytes of a string. -/
namespace Go.Abs
open Go
/-- The cells of what is appended: a slice's, or a string's bytes; and how many elements. -/
def srcE (h : Heap) (size : Nat) (x : Value) : Option (List Value × Nat) :=
  match x with
  | .slice none 0 0 => some ([], 0)
  | .slice (some ⟨b, o, none⟩) len _ => match rowE h b o (len * size) with
    | some xs => some (xs, len)
    | none => none
  | .string s => if size = 1 then some (s.data.toList.map fun b => .int .u8 b.toNat, s.data.toList.length) else none
  | _ => none
theorem srcE_sound {P : Program} {μ : Mu} {h : Heap} {n : Nat} {w : World} (r : Rel P μ h n w) {size : Nat} {x x' : Value} (hx : VRel μ x x') {xs : List Value} {len : Nat} (e : srcE h size x = some (xs, len)) :
    ∃ xs' : List Value, LRel μ xs xs' ∧ xs'.length = len * size ∧ (∀ d, (Builtin.lenOf x').run P { w with drawn := d } = .ok len { w with drawn := d }) ∧ ∀ d, (Builtin.firstCells size len x').run P { w with drawn := d } = .ok xs'.toArray { w with drawn := d } := by
  unfold srcE at e
  split at e
  · cases e
    cases hx
    exact ⟨[], .nil, by simp, fun _ => rfl, fun _ => rfl⟩
  · rename_i b o len0 cap
    cases hx with
    | slice _ _ _ cap' hm hc =>
      split at e
      · rename_i ys hy
        cases e
        obtain ⟨m, xs', f1, f2, f3, f4, f5⟩ := rowE_sound r hm hy
        rw [hm] at f1; cases f1
        refine ⟨xs', f5.list, f2, fun _ => rfl, fun d => ?_⟩
        simp only [Builtin.firstCells]
        rw [← f2]
        exact run_loadCells xs' f4
      · cases e
    | szero _ _ a' =>
      split at e
      · rename_i ys hy
        cases e
        have hx0 : xs = [] := by
          unfold rowE at hy
          simpa using hy.symm
        subst hx0
        refine ⟨[], .nil, by simp, fun _ => rfl, fun d => ?_⟩
        simp only [Builtin.firstCells, Nat.zero_mul]
        rfl
      · cases e
  · rename_i s
    cases hx
    split at e
    · rename_i hs
      cases e
      refine ⟨s.data.toList.map fun b => .int .u8 b.toNat, LRel.flat (by rw [List.all_eq_true]; intro y hy; simp at hy; obtain ⟨b, _, rfl⟩ := hy; rfl), by simp [hs], fun d => by simp [Builtin.lenOf], fun d => ?_⟩
      simp only [Builtin.firstCells, Sem.run_pure]
      congr 1
      apply Array.ext'
      simp
    · cases e
  · cases e
theorem growBy_le (need : Nat) : ∀ (k c : Nat), c ≤ need → Builtin.growBy need k c ≤ 2 * need + 768 := by
  intro k
  induction k with
  | zero => intro c h; simp [Builtin.growBy]; omega
  | succ k ih =>
    intro c h
    simp only [Builtin.growBy]
    split
    · omega
    · by_cases h2 : c + (c + 768) / 4 ≤ need
      · exact ih _ h2
      · have : Builtin.growBy need k (c + (c + 768) / 4) = c + (c + 768) / 4 := by
          cases k with
          | zero => rfl
          | succ k => simp only [Builtin.growBy]; rw [if_pos (by omega)]
        rw [this]; omega
theorem nextcap_le {need old : Nat} (h : old < need) : Builtin.nextslicecap need old ≤ 2 * need + 768 := by
  unfold Builtin.nextslicecap
  split
  · omega
  · split
    · omega
    · exact growBy_le need 4 old (by omega)
/-- The parts of 'append' of rows, where the second one is no number. -/
def appendE (P : Program) (ts : List TypeId) (args : List Value) (h : Heap) (n : Nat) : Option (ARes × Heap × Nat) :=
  match ts, args with
  | st :: rest, [s, x] =>
    match P.underlying st, (match rest with
      | [] => true
      | xt :: _ => match P.underlying xt with
        | some (.int _) => false
        | some _ => true
        | none => false) with
    | some (.slice elem), true =>
      match P.info? elem, zeroOf P elem with
      | some i, some z =>
        if z.cells.toList.length = i.size ∧ 0 < i.size then
        match srcE h i.size x with
        | some (xs, m) =>
          if xs.all (fun v => v.oneCell') then
          match s with
          | .slice none 0 0 =>
            if m = 0 then some (.val s, h, n)
            else if (2 * m + 768) * i.bytes ≤ 2 ^ 48 ∧ m < 2 ^ 62 then
              some (.val (.slice (some ⟨n, 0, none⟩) m U), h.set n (.cells xs true ⟨elem, i.size, false⟩), n + 1)
            else none
          | .slice (some ⟨b, o, none⟩) len cap =>
            if m = 0 then (if len ≤ cap then some (.val s, h, n) else none)
            else if (2 * (len + m) + 768) * i.bytes ≤ 2 ^ 48 ∧ len + m < 2 ^ 62 then
              if cap = U then
                match h.get b with
                | some (.cells cs true ci) =>
                  if ci.k = i.size ∧ o + len * i.size = cs.length ∧ ci.e = elem then
                    some (.val (.slice (some ⟨n, 0, none⟩) (len + m) U), (h.del b).set n (.cells (cs.drop o ++ xs) true ⟨elem, i.size, false⟩), n + 1)
                  else none
                | _ => none
              else if len + m ≤ cap then
                match h.get b with
                | some (.cells cs true ci) =>
                  if o + (len + m) * i.size ≤ cs.length then
                    some (.val (.slice (some ⟨b, o, none⟩) (len + m) cap), h.set b (.cells (setAll cs (o + len * i.size) xs) true ci), n)
                  else none
                | _ => none
              else if len ≤ cap then
                match rowE h b o (len * i.size) with
                | some old => some (.val (.slice (some ⟨n, 0, none⟩) (len + m) U), h.set n (.cells (old ++ xs) true ⟨elem, i.size, false⟩), n + 1)
                | none => none
              else none
            else none
          | _ => none
          else none
        | none => none
        else none
      | _, _ => none
    | _, _ => none
  | _, _ => none
/-- The run of a growing append. -/
theorem run_append_grow {P : Program} {w : World} {ts : Array TypeId} {ty st elem : TypeId} {i : TypeInfo} {z : Value} {base : Option Addr} {len cap : Nat} {x' : Value} {m : Nat} {old xs' : List Value}
    (h0 : ts[0]? = some st) (hu : P.underlying st = some (.slice elem)) (hi : P.info? elem = some i)
    (hzeros : ts[1]? = none ∨ ∃ xt d, ts[1]? = some xt ∧ P.underlying xt = some d ∧ ∀ k, d ≠ .int k)
    (hl : (Builtin.lenOf x').run P w = .ok m w) (hgrow : cap < len + m)
    (hb : (2 * (len + m) + 768) * i.bytes ≤ 2 ^ 48) (hm2 : len + m < 2 ^ 62)
    (hold : ∀ d, (Builtin.firstCells i.size len (.slice base len cap)).run P { w with drawn := d } = .ok old.toArray { w with drawn := d })
    (hnew : ∀ d, (Builtin.firstCells i.size m x').run P { w with drawn := d } = .ok xs'.toArray { w with drawn := d })
    (hzd : ∀ d, (zeroValue elem).run P { w with drawn := d } = .ok z { w with drawn := d }) :
    ∃ newCap, len + m ≤ newCap ∧ (Builtin.append_ ts ty #[.slice base len cap, x']).run P w =
      .ok (.slice (some ⟨w.heap.size, 0, none⟩) (len + m) newCap) { w with drawn := w.drawn + 1, heap := w.heap.push (.cells (old ++ xs' ++ zerosE z.cells.toList (newCap - (len + m))).toArray elem (0, 0)) } := by
  refine ⟨(Question.appendCap (len + m) cap elem).cut (w.tape w.drawn (.appendCap (len + m) cap elem)), Nat.le_add_right _ _, ?_⟩
  have hnc : ¬ (Builtin.nextslicecap (len + m) cap * i.bytes > 2 ^ 48) := by
    have := Nat.mul_le_mul_right i.bytes (nextcap_le hgrow)
    omega
  have hint : ¬ (((len + m : Nat) : Int) > IntKind.i64.max) := by
    have : IntKind.i64.max = 9223372036854775807 := rfl
    rw [this]; omega
  have hnle : ¬ (len + m ≤ cap) := by omega
  have hzc : ∀ k, Builtin.zeroCells z.cells k = (zerosE z.cells.toList k).toArray := by
    intro k; exact zeros_model z.cells k
  rcases hzeros with h1 | ⟨xt, d, h1, hd, hni⟩
  · simp only [Builtin.append_, h0, h1, List.getElem?_toArray, List.getElem?_cons_zero, List.getElem?_cons_succ, Sem.run_bind, run_underlying_of hu, Result.andThen_ok, run_sizeOf_of hi, Sem.run_pure, Bool.false_eq_true, if_false, hl, hnle, run_typeInfo_of hi]
    rw [if_neg (by rintro ⟨h, _⟩; exact hint h)]
    simp only [Sem.run_bind, run_typeInfo_of hi, Result.andThen_ok]
    rw [if_neg hnc]
    simp only [run_choose, Question.forced, Bool.false_eq_true, if_false, Result.andThen_ok, run_askRoom, Bool.not_false, if_true, Sem.run_bind, run_typeInfo_of hi]
    rw [hold]
    simp only [Result.andThen_ok]
    rw [hnew]
    simp only [Result.andThen_ok]
    rw [hzd]
    simp only [Result.andThen_ok, newRow, hzc, Sem.run_pure]
    simp
    exact ⟨rfl, rfl, rfl⟩
  · cases d <;> first
      | exact (hni _ rfl).elim
      | (simp only [Builtin.append_, h0, h1, List.getElem?_toArray, List.getElem?_cons_zero, List.getElem?_cons_succ, Sem.run_bind, run_underlying_of hu, run_underlying_of hd, Result.andThen_ok, run_sizeOf_of hi, Sem.run_pure, Bool.false_eq_true, if_false, hl, hnle, run_typeInfo_of hi]
         rw [if_neg (by rintro ⟨h, _⟩; exact hint h)]
         simp only [Sem.run_bind, run_typeInfo_of hi, Result.andThen_ok]
         rw [if_neg hnc]
         simp only [run_choose, Question.forced, Bool.false_eq_true, if_false, Result.andThen_ok, run_askRoom, Bool.not_false, if_true, Sem.run_bind, run_typeInfo_of hi]
         rw [hold]
         simp only [Result.andThen_ok]
         rw [hnew]
         simp only [Result.andThen_ok]
         rw [hzd]
         simp only [Result.andThen_ok, newRow, hzc, Sem.run_pure]
         simp
         exact ⟨rfl, rfl, rfl⟩)
/-- The run of an append within the capacity. -/
theorem run_append_place {P : Program} {w w' : World} {ts : Array TypeId} {ty st elem : TypeId} {i : TypeInfo} {a : Addr} {len cap : Nat} {x' : Value} {m : Nat} {xs' : List Value}
    (h0 : ts[0]? = some st) (hu : P.underlying st = some (.slice elem)) (hi : P.info? elem = some i)
    (hzeros : ts[1]? = none ∨ ∃ xt d, ts[1]? = some xt ∧ P.underlying xt = some d ∧ ∀ k, d ≠ .int k)
    (hl : (Builtin.lenOf x').run P w = .ok m w) (hle : len + m ≤ cap)
    (hnew : (Builtin.firstCells i.size m x').run P w = .ok xs'.toArray w)
    (hst : (storeCells (a.add (len * i.size)) xs').run P w = .ok () w') :
    (Builtin.append_ ts ty #[.slice (some a) len cap, x']).run P w = .ok (.slice (some a) (len + m) cap) w' := by
  rcases hzeros with h1 | ⟨xt, d, h1, hd, hni⟩
  · simp only [Builtin.append_, h0, h1, List.getElem?_toArray, List.getElem?_cons_zero, List.getElem?_cons_succ, Sem.run_bind, run_underlying_of hu, Result.andThen_ok, run_sizeOf_of hi, Sem.run_pure, Bool.false_eq_true, if_false, hl, hle, if_true, Bool.not_false]
    rw [hnew]
    simp only [Result.andThen_ok]
    rw [hst]
    rfl
  · cases d <;> first
      | exact (hni _ rfl).elim
      | (simp only [Builtin.append_, h0, h1, List.getElem?_toArray, List.getElem?_cons_zero, List.getElem?_cons_succ, Sem.run_bind, run_underlying_of hu, run_underlying_of hd, Result.andThen_ok, run_sizeOf_of hi, Sem.run_pure, Bool.false_eq_true, if_false, hl, hle, if_true, Bool.not_false]
         rw [hnew]
         simp only [Result.andThen_ok]
         rw [hst]
         rfl)
/-- The run of an append of nothing. -/
theorem run_append_none {P : Program} {w : World} {ts : Array TypeId} {ty st elem : TypeId} {i : TypeInfo} {base : Option Addr} {len cap : Nat} {x' : Value}
    (h0 : ts[0]? = some st) (hu : P.underlying st = some (.slice elem)) (hi : P.info? elem = some i)
    (hzeros : ts[1]? = none ∨ ∃ xt d, ts[1]? = some xt ∧ P.underlying xt = some d ∧ ∀ k, d ≠ .int k)
    (hl : (Builtin.lenOf x').run P w = .ok 0 w) (hle : len ≤ cap)
    (hnew : (Builtin.firstCells i.size 0 x').run P w = .ok #[] w) :
    (Builtin.append_ ts ty #[.slice base len cap, x']).run P w = .ok (.slice base len cap) w := by
  have hle' : len + 0 ≤ cap := hle
  rcases hzeros with h1 | ⟨xt, d, h1, hd, hni⟩
  · simp only [Builtin.append_, h0, h1, List.getElem?_toArray, List.getElem?_cons_zero, List.getElem?_cons_succ, Sem.run_bind, run_underlying_of hu, Result.andThen_ok, run_sizeOf_of hi, Sem.run_pure, Bool.false_eq_true, if_false, hl, hle', if_true, Bool.not_false]
    rw [hnew]
    simp only [Result.andThen_ok]
    cases base <;> rfl
  · cases d <;> first
      | exact (hni _ rfl).elim
      | (simp only [Builtin.append_, h0, h1, List.getElem?_toArray, List.getElem?_cons_zero, List.getElem?_cons_succ, Sem.run_bind, run_underlying_of hu, run_underlying_of hd, Result.andThen_ok, run_sizeOf_of hi, Sem.run_pure, Bool.false_eq_true, if_false, hl, hle', if_true, Bool.not_false]
         rw [hnew]
         simp only [Result.andThen_ok]
         cases base <;> rfl)
end Go.Abs
/- Appends: what they are on both sides. -/
namespace Go.Abs
open Go
theorem length_setAll_arr (xs cs : List Value) (o : Nat) : (setAll cs o xs).length = cs.length := length_setAll xs cs o
theorem get_setAll : ∀ (xs cs : List Value) (o i : Nat), o + xs.length ≤ cs.length → (setAll cs o xs)[i]? = if o ≤ i ∧ i < o + xs.length then xs[i - o]? else cs[i]? := by
  intro xs
  induction xs with
  | nil => intro cs o i _; simp only [setAll, List.length_nil]; rw [if_neg (by omega)]
  | cons x xs ih =>
    intro cs o i h
    simp only [List.length_cons] at h
    simp only [setAll]
    rw [ih _ _ _ (by simp; omega)]
    by_cases h1 : o + 1 ≤ i ∧ i < o + 1 + xs.length
    · rw [if_pos h1, if_pos (by simp only [List.length_cons]; omega)]
      obtain ⟨k, rfl⟩ : ∃ k, i = o + 1 + k := ⟨i - (o + 1), by omega⟩
      rw [show o + 1 + k - (o + 1) = k by omega, show o + 1 + k - o = k + 1 by omega]
      simp
    · rw [if_neg h1]
      by_cases h2 : i = o
      · subst h2
        rw [if_pos (by simp only [List.length_cons]; omega), List.getElem?_set_self (by omega), Nat.sub_self]
        rfl
      · rw [if_neg (by simp only [List.length_cons]; omega), List.getElem?_set_ne (Ne.symm h2)]
theorem run_storeCells_conc {P : Program} : ∀ (xs : List Value) (w : World) (b p i : Nat) (c : Array Value) (e : TypeId) (fr : Nat × Nat), w.heap[b]? = some (.cells c e fr) →
    (xs.all fun x => x.oneCell') = true → p + i + xs.length ≤ c.size → (∀ j, p ≤ j → j < c.size → ¬ (fr.1 ≤ j ∧ j < fr.2)) →
    (storeCells ⟨b, p, none⟩ xs i).run P w = .ok () { w with heap := w.heap.setIfInBounds b (.cells (setAll c.toList (p + i) xs).toArray e fr) } := by
  intro xs
  induction xs with
  | nil =>
    intro w b p i c e fr hb _ _ _
    simp only [storeCells, Sem.run_pure, setAll, Array.toArray_toList]
    congr 1
    obtain ⟨hlt, hx⟩ := Array.getElem?_eq_some_iff.1 hb
    have : w.heap.setIfInBounds b (.cells c e fr) = w.heap := by
      apply Array.ext
      · simp
      · intro j h1 h2
        rw [Array.getElem_setIfInBounds]
        split
        · rename_i h; subst h; exact hx.symm
        · rfl
    rw [this]
  | cons x xs ih =>
    intro w b p i c e fr hb h1 hle hfr
    simp only [List.all_cons, Bool.and_eq_true] at h1
    simp only [List.length_cons] at hle
    have hcell : w.cell? ⟨b, p + i, none⟩ = some (c[p + i]'(by omega)) := by rw [cell_of_block hb, Array.getElem?_eq_getElem]
    have hfro : w.frozen? ⟨b, p + i, none⟩ = false := by
      have := hfr (p + i) (by omega) (by omega)
      simp only [World.frozen?, hb]
      simpa [Bool.and_eq_true, decide_eq_true_eq] using this
    have hset : w.setCell ⟨b, p + i, none⟩ x = { w with heap := w.heap.setIfInBounds b (.cells (c.setIfInBounds (p + i) x) e fr) } := by
      simp only [World.setCell]
      rw [modify_of hb]
      simp
    obtain ⟨hlt, _⟩ := Array.getElem?_eq_some_iff.1 hb
    simp only [storeCells, Sem.run_bind, Addr.add_plain]
    rw [run_store P w _ _ _ h1.1, hcell]
    simp only [hfro, Bool.false_eq_true, if_false, Result.andThen_ok]
    rw [hset, ih _ b p (i + 1) (c.setIfInBounds (p + i) x) e fr (by simp [hlt]) h1.2 (by simp; omega) (fun j h1 h2 => hfr j h1 (by simpa using h2))]
    congr 2
    simp only [Array.setIfInBounds_setIfInBounds]
    congr 3
    simp [setAll, Nat.add_assoc]
theorem LRel.all_oneCell {μ : Mu} {xs ys : List Value} (h : LRel μ xs ys) (k : (xs.all fun x => x.oneCell') = true) : (ys.all fun x => x.oneCell') = true := by
  induction h with
  | nil => rfl
  | cons hx _ ih =>
    simp only [List.all_cons, Bool.and_eq_true] at k ⊢
    exact ⟨by rw [hx.oneCell]; exact k.1, ih k.2⟩
theorem LRel.drop {μ : Mu} {xs ys : List Value} (h : LRel μ xs ys) : ∀ k, LRel μ (xs.drop k) (ys.drop k) := by
  induction h with
  | nil => intro k; simp; exact .nil
  | cons hx ht ih =>
    intro k
    cases k with
    | zero => exact .cons hx ht
    | succ k => simpa using ih k
theorem appendE_sound {P : Program} {μ : Mu} {h : Heap} {n : Nat} {w : World} (r : Rel P μ h n w) {ts : Array TypeId} {args args' : List Value} (ha : LRel μ args args') {y : ARes × Heap × Nat} (e : appendE P ts.toList args h n = some y) (ty : TypeId) :
    ARun P (do pure (.value (← Builtin.append_ ts ty args'.toArray))) μ h n w y := by
  unfold appendE at e
  split at e
  · rename_i st rest s x hts
    cases ha with
    | cons hs ht =>
    cases ht with
    | cons hx ht =>
    cases ht
    rename_i s' x'
    have h0 : ts[0]? = some st := by rw [← Array.getElem?_toList, hts]; rfl
    split at e
    · rename_i elem hu hz0
      have hzeros : ts[1]? = none ∨ ∃ xt d, ts[1]? = some xt ∧ P.underlying xt = some d ∧ ∀ k, d ≠ .int k := by
        rw [← Array.getElem?_toList, hts]
        cases rest with
        | nil => exact .inl rfl
        | cons xt rest =>
          simp only at hz0
          split at hz0
          · cases hz0
          · rename_i d hni hd
            exact .inr ⟨xt, d, rfl, hd, fun k hk => hni k hk⟩
          · cases hz0
      split at e
      · rename_i i z hi hz
        split at e
        · rename_i hzl
          obtain ⟨hzl, hspos⟩ := hzl
          split at e
          · rename_i xs m hsrc
            obtain ⟨xs', l1, l2, l3, l4⟩ := srcE_sound r hx hsrc
            have hxl : xs.length = m * i.size := by rw [← l2, l1.length]
            split at e
            · rename_i hone
              have hzf := (zeroOf_run hz w).2.1
              have hzd : ∀ d, (zeroValue elem).run P { w with drawn := d } = .ok z { w with drawn := d } := fun d => (zeroOf_run hz _).1
              split at e
              · -- nil
                cases hs
                split at e
                · rename_i hm0
                  cases e
                  subst hm0
                  have hx0 : xs' = [] := List.eq_nil_of_length_eq_zero (by rw [l2]; simp)
                  refine ⟨μ, w, ?_, r, .refl _ _ _, Nat.le_refl _⟩
                  have hrun := run_append_none (P := P) (w := w) (ts := ts) (ty := ty) (base := none) (cap := 0) h0 hu hi hzeros (l3 w.drawn) (Nat.le_refl _) (by have := l4 w.drawn; rw [hx0] at this; exact this)
                  simp only [Sem.run_bind, hrun, Result.andThen_ok, Sem.run_pure]
                  exact .val .snil
                · rename_i hm0
                  split at e
                  · rename_i hb
                    cases e
                    obtain ⟨newCap, c1, hrun⟩ := run_append_grow (P := P) (w := w) (ts := ts) (ty := ty) (base := none) (len := 0) (cap := 0) (old := []) (xs' := xs') (m := m) (z := z) h0 hu hi hzeros (l3 w.drawn) (by omega) (by simpa using hb.1) (by omega) (fun _ => rfl) l4 hzd
                    obtain ⟨g1, g2⟩ := (Rel.of_heap (w := w) (w' := { w with drawn := w.drawn + 1 }) rfl r).row (rest := zerosE z.cells.toList (newCap - (0 + m))) l1 elem i.size false (by simp) (0, 0) (.inr (Nat.le_refl _))
                    simp only [List.nil_append] at hrun
                    refine ⟨_, _, ?_, g1, (Grow.drew μ h w _).trans g2, Nat.le_succ _⟩
                    simp only [Sem.run_bind, hrun, Result.andThen_ok, Sem.run_pure, Nat.zero_add]
                    refine .val (.newSlice rfl _ _ _ (.inr ⟨rfl, by omega, ?_⟩))
                    simp only [length_zerosE, hzl, l2, Nat.zero_add] at c1 ⊢
                    rw [← Nat.add_mul]
                    exact Nat.le_of_eq (by congr 1; omega)
                  · cases e
              · rename_i b o len cap
                cases hs with
                | slice _ _ _ cap' hm hcc =>
                rename_i m0
                split at e
                · rename_i hm0
                  split at e
                  · rename_i hlc
                    cases e
                    subst hm0
                    have hx0 : xs' = [] := List.eq_nil_of_length_eq_zero (by rw [l2]; simp)
                    refine ⟨μ, w, ?_, r, .refl _ _ _, Nat.le_refl _⟩
                    have hle : len ≤ cap' := by rcases hcc with ⟨_, rfl⟩ | ⟨_, h, _⟩ <;> omega
                    have hrun := run_append_none (P := P) (w := w) (ts := ts) (ty := ty) (base := some ⟨m0.blk, m0.off + o, none⟩) (cap := cap') h0 hu hi hzeros (l3 w.drawn) hle (by have := l4 w.drawn; rw [hx0] at this; exact this)
                    simp only [Sem.run_bind, hrun, Result.andThen_ok, Sem.run_pure]
                    exact .val (.slice _ _ _ _ hm hcc)
                  · cases e
                · rename_i hm0
                  split at e
                  · rename_i hb
                    split at e
                    · -- a capacity that is not known
                      rename_i hU
                      have hcc' : len ≤ cap' ∧ m0.off + o + cap' * m0.k ≤ m0.sz := by
                        rcases hcc with ⟨h, _⟩ | ⟨_, h⟩
                        · omega
                        · exact h
                      split at e
                      · rename_i cs ci hbk
                        split at e
                        · rename_i hk
                          obtain ⟨hk1, hk2, hk3⟩ := hk
                          cases e
                          obtain ⟨m1, x1, f1, f2, f3⟩ := r.obj b _ hbk
                          rw [hm] at f1; cases f1
                          cases x1 with
                          | cells c el fr =>
                            obtain ⟨g1, g2, g3, g4, g5, g6, g7⟩ := f3
                            by_cases hfit : len + m ≤ cap'
                            · -- in place
                              have hmul : m0.off + o + (len + m) * i.size ≤ c.size := by
                                have := Nat.mul_le_mul_right i.size hfit
                                rw [g5, hk1] at hcc'
                                omega
                              have hadd : (len + m) * i.size = len * i.size + m * i.size := Nat.add_mul _ _ _
                              have hst := run_storeCells_conc (P := P) xs' w m0.blk (m0.off + o + len * i.size) 0 c el fr f2 (l1.all_oneCell hone) (by omega) (fun j h1 h2 => g4 rfl j (by omega) h2)
                              have hrun := run_append_place (P := P) (ts := ts) (ty := ty) (a := ⟨m0.blk, m0.off + o, none⟩) (len := len) (cap := cap') h0 hu hi hzeros (l3 w.drawn) hfit (l4 w.drawn) (by rw [Addr.add_plain]; exact hst)
                              have hmv := r.move (o' := .cells (cs.drop o ++ xs) true ⟨elem, i.size, false⟩) (.cells (setAll c.toList (m0.off + o + len * i.size + 0) xs').toArray el fr) (m' := ⟨m0.blk, m0.off + o, m0.sz, m0.k⟩) r.globs hbk rfl hm rfl ?_
                                (w' := { w with heap := w.heap.setIfInBounds m0.blk (.cells (setAll c.toList (m0.off + o + len * i.size + 0) xs').toArray el fr) }) rfl rfl rfl rfl
                              · refine ⟨_, _, ?_, hmv.1, hmv.2, Nat.le_succ _⟩
                                simp only [Sem.run_bind, hrun, Result.andThen_ok, Sem.run_pure]
                                refine .val ?_
                                have hv := VRel.slice (μ := μ.set n ⟨m0.blk, m0.off + o, m0.sz, m0.k⟩) (b := n) 0 (len + m) U cap' (Mu.set_same _ _ _) (.inr ⟨rfl, hfit, hcc'.2⟩)
                                exact hv
                              · have hle : μ.le (μ.set n ⟨m0.blk, m0.off + o, m0.sz, m0.k⟩) := Mu.le_set (r.bound n (Nat.le_refl _))
                                refine ⟨by simp [g1, length_setAll], by simp [length_setAll]; omega, ?_, ?_, by simp [g5, hk1], by simp [g6, hk3], by simp⟩
                                · intro j v hj
                                  simp only [List.getElem?_toArray]
                                  rw [get_setAll _ _ _ _ (by simp; omega)]
                                  by_cases hjl : j < (cs.drop o).length
                                  · rw [List.getElem?_append_left hjl, List.getElem?_drop] at hj
                                    obtain ⟨v', p1, p2⟩ := g3 (o + j) v hj
                                    simp at hjl
                                    rw [if_neg (by omega)]
                                    exact ⟨v', by rw [← p1, show m0.off + (o + j) = m0.off + o + j by omega]; simp, p2.mono hle⟩
                                  · rw [List.getElem?_append_right (by omega)] at hj
                                    obtain ⟨v', p1, p2⟩ := l1.get hj
                                    simp at hjl
                                    have hjx := (List.getElem?_eq_some_iff.1 hj).1
                                    simp at hjx
                                    rw [if_pos (by rw [l2]; omega)]
                                    refine ⟨v', ?_, p2.mono hle⟩
                                    rw [← p1]; congr 1; simp; omega
                                · intro _ j h1 h2
                                  simp [length_setAll] at h1 h2
                                  exact g4 rfl j (by omega) h2
                            · -- a new array
                              have hrow : rowE h b o (len * i.size) = some (cs.drop o) := by
                                rw [rowE_of hbk (by omega)]
                                congr 1
                                rw [List.take_of_length_le]
                                simp; omega
                              obtain ⟨m2, old', p1, p2, p3, p4, p5⟩ := rowE_sound r hm hrow
                              rw [hm] at p1; cases p1
                              obtain ⟨newCap, c1, hrun⟩ := run_append_grow (P := P) (w := w) (ts := ts) (ty := ty) (base := some ⟨m0.blk, m0.off + o, none⟩) (len := len) (cap := cap') (old := old') (xs' := xs') (m := m) (z := z) h0 hu hi hzeros (l3 w.drawn) (by omega) hb.1 hb.2
                                (fun d => by simp only [Builtin.firstCells]; rw [← p2]; exact run_loadCells old' p4) l4 hzd
                              obtain ⟨q1, q2⟩ := (Rel.of_heap (w := w) (w' := { w with drawn := w.drawn + 1 }) rfl r).row (rest := zerosE z.cells.toList (newCap - (len + m))) (p5.list.append l1) elem i.size false (by simp) (0, 0) (.inr (Nat.le_refl _))
                              have hsub : Heap.sub ((Trie.del h b).set n (.cells (cs.drop o ++ xs) true ⟨elem, i.size, false⟩)) (h.set n (.cells (cs.drop o ++ xs) true ⟨elem, i.size, false⟩)) := by
                                intro j oj hj
                                rw [Trie.get_set] at hj ⊢
                                split at hj
                                · rename_i hjn; rw [if_pos hjn]; exact hj
                                · rename_i hjn
                                  rw [if_neg hjn]
                                  rw [Trie.get_del] at hj
                                  split at hj
                                  · cases hj
                                  · exact hj
                              refine ⟨_, _, ?_, q1.sub hsub, ((Grow.drew μ h w _).trans q2).sub hsub, Nat.le_succ _⟩
                              simp only [Sem.run_bind, hrun, Result.andThen_ok, Sem.run_pure]
                              refine .val (.newSlice rfl _ _ _ (.inr ⟨rfl, c1, ?_⟩))
                              simp only [length_zerosE, hzl, l2, List.length_append, p2]
                              rw [← Nat.add_mul, ← Nat.add_mul]
                              exact Nat.le_of_eq (by congr 1; omega)
                          | _ => exact f3.elim
                        · cases e
                      · cases e
                    · rename_i hU
                      have hcap : cap = cap' := by
                        rcases hcc with ⟨_, h⟩ | ⟨h, _⟩
                        · exact h
                        · exact (hU h).elim
                      subst hcap
                      split at e
                      · -- within a capacity that is known
                        rename_i hfit
                        split at e
                        · rename_i cs ci hbk
                          split at e
                          · rename_i hle
                            cases e
                            have hadd : (len + m) * i.size = len * i.size + m * i.size := Nat.add_mul _ _ _
                            obtain ⟨w', q1, h2, q2, r2, g2⟩ := run_storeCells hm xs xs' h w cs (o + len * i.size) 0 r hbk l1.arr hone (by omega)
                            have hext : ∀ j, (h.set b (.cells (setAll cs (o + len * i.size) xs) true ci)).get j = h2.get j := by
                              intro j; rw [q2 j, Trie.get_set]; rfl
                            have hrun := run_append_place (P := P) (ts := ts) (ty := ty) (a := ⟨m0.blk, m0.off + o, none⟩) (len := len) (cap := cap) h0 hu hi hzeros (l3 w.drawn) hfit (l4 w.drawn) (by rw [Addr.add_plain, Nat.add_assoc]; exact q1)
                            refine ⟨μ, w', ?_, r2.ext hext, g2.ext hext, Nat.le_refl _⟩
                            simp only [Sem.run_bind, hrun, Result.andThen_ok, Sem.run_pure]
                            exact .val (.slice _ _ _ _ hm (hcc.imp id fun h => ⟨h.1, by omega, h.2.2⟩))
                          · cases e
                        · cases e
                      · rename_i hfit
                        split at e
                        · rename_i hlc
                          split at e
                          · rename_i old hrow
                            cases e
                            obtain ⟨m2, old', p1, p2, p3, p4, p5⟩ := rowE_sound r hm hrow
                            rw [hm] at p1; cases p1
                            obtain ⟨newCap, c1, hrun⟩ := run_append_grow (P := P) (w := w) (ts := ts) (ty := ty) (base := some ⟨m0.blk, m0.off + o, none⟩) (len := len) (cap := cap) (old := old') (xs' := xs') (m := m) (z := z) h0 hu hi hzeros (l3 w.drawn) (by omega) hb.1 hb.2
                              (fun d => by simp only [Builtin.firstCells]; rw [← p2]; exact run_loadCells old' p4) l4 hzd
                            obtain ⟨q1, q2⟩ := (Rel.of_heap (w := w) (w' := { w with drawn := w.drawn + 1 }) rfl r).row (rest := zerosE z.cells.toList (newCap - (len + m))) (p5.list.append l1) elem i.size false (by simp) (0, 0) (.inr (Nat.le_refl _))
                            refine ⟨_, _, ?_, q1, (Grow.drew μ h w _).trans q2, Nat.le_succ _⟩
                            simp only [Sem.run_bind, hrun, Result.andThen_ok, Sem.run_pure]
                            refine .val (.newSlice rfl _ _ _ (.inr ⟨rfl, c1, ?_⟩))
                            simp only [length_zerosE, hzl, l2, List.length_append, p2]
                            rw [← Nat.add_mul, ← Nat.add_mul]
                            exact Nat.le_of_eq (by congr 1; omega)
                          · cases e
                        · cases e
                  · cases e
                | szero _ _ a' =>
                  split at e
                  · rename_i hm0
                    split at e
                    · cases e
                      subst hm0
                      have hx0 : xs' = [] := List.eq_nil_of_length_eq_zero (by rw [l2]; simp)
                      refine ⟨μ, w, ?_, r, .refl _ _ _, Nat.le_refl _⟩
                      have hrun := run_append_none (P := P) (w := w) (ts := ts) (ty := ty) (base := some a') (cap := 0) h0 hu hi hzeros (l3 w.drawn) (Nat.le_refl _) (by have := l4 w.drawn; rw [hx0] at this; exact this)
                      simp only [Sem.run_bind, hrun, Result.andThen_ok, Sem.run_pure]
                      exact .val (.szero _ _ _)
                    · cases e
                  · rename_i hm0
                    split at e
                    · rename_i hb
                      split at e
                      · rename_i hU
                        exact absurd hU (by unfold U; decide)
                      · split at e
                        · rename_i hfit
                          exact absurd hfit (by omega)
                        · split at e
                          · split at e
                            · rename_i old hrow
                              have hold : old = [] := by
                                rw [Nat.zero_mul] at hrow
                                unfold rowE at hrow
                                simpa using hrow.symm
                              subst hold
                              cases e
                              obtain ⟨newCap, c1, hrun⟩ := run_append_grow (P := P) (w := w) (ts := ts) (ty := ty) (base := some a') (len := 0) (cap := 0) (old := []) (xs' := xs') (m := m) (z := z) h0 hu hi hzeros (l3 w.drawn) (by omega) (by simpa using hb.1) (by omega) (fun _ => by simp only [Builtin.firstCells, Nat.zero_mul]; rfl) l4 hzd
                              obtain ⟨g1, g2⟩ := (Rel.of_heap (w := w) (w' := { w with drawn := w.drawn + 1 }) rfl r).row (rest := zerosE z.cells.toList (newCap - (0 + m))) l1 elem i.size false (by simp) (0, 0) (.inr (Nat.le_refl _))
                              simp only [List.nil_append] at hrun
                              refine ⟨_, _, ?_, g1, (Grow.drew μ h w _).trans g2, Nat.le_succ _⟩
                              simp only [Sem.run_bind, hrun, Result.andThen_ok, Sem.run_pure, Nat.zero_add]
                              refine .val (.newSlice rfl _ _ _ (.inr ⟨rfl, by omega, ?_⟩))
                              simp only [length_zerosE, hzl, l2, Nat.zero_add] at c1 ⊢
                              rw [← Nat.add_mul]
                              exact Nat.le_of_eq (by congr 1; omega)
                            · cases e
                          · cases e
                    · cases e
              · cases e
            · cases e
          · cases e
        · cases e
      · cases e
    · cases e
  · cases e
end Go.Abs
/- Operations that act, in one function; calls of functions. -/
namespace Go.Abs
open Go
/-- What is asked of a program, once. -/
structure POk (P : Program) : Prop where
  mixed : P.follows .mixedOrders = true
  named : ∀ (f : Nat) (fn : Func), P.funcs[f]? = some fn → (fn.name == "runtime.NumGoroutine") = false
def calleeE (P : Program) (f : Value) (args : List Value) : Option (FuncId × List Value) :=
  match f with
  | .func (.func k) first captured =>
    match P.funcs[k]? with
    | some fn => if fn.body.isSome then some (k, (first.toList ++ args) ++ captured.toList) else none
    | none => none
  | _ => none
theorem calleeE_sound {P : Program} (ok : POk P) {μ : Mu} {f f' : Value} {args args' : List Value} (hf : VRel μ f f') (ha : LRel μ args args') {k : FuncId} {as : List Value} (e : calleeE P f args = some (k, as)) (w : World) :
    ∃ as' : List Value, (do let d ← Deferred.ofValue f' args'.toArray; invoke d.target d.args).run P w = .ok (.enter k as'.toArray) w ∧ LRel μ as as' := by
  unfold calleeE at e
  split at e
  · rename_i k0 first captured
    cases hf with
    | func fn h1 h2 h3 h4 =>
      rename_i first' captured'
      have hr1 : LRel μ first.toList first'.toList := ARel.list ⟨h1, h3⟩
      have hr2 : LRel μ captured.toList captured'.toList := ARel.list ⟨h2, h4⟩
      split at e
      · rename_i fn hfn
        split at e
        · rename_i hb
          cases e
          refine ⟨(first'.toList ++ args') ++ captured'.toList, ?_, (hr1.append ha).append hr2⟩
          have hn := ok.named _ fn hfn
          have hbn : fn.body.isNone = false := by cases hbb : fn.body <;> simp_all
          simp only [Deferred.ofValue, invoke, callFunc, Sem.run_bind, run_program, Result.andThen_ok, hfn, hn, Bool.false_eq_true, if_false, hbn, Sem.run_pure]
          congr 2
          apply Array.ext'
          simp
        · cases e
      · cases e
  · cases e
/-- What is deferred: a function's value, and what it is called with. -/
def deferE (f : Value) (args : List Value) : Option Deferred :=
  match f with
  | .func fn first captured => some { target := .fn fn captured, args := (first.toList ++ args).toArray }
  | _ => none
theorem deferE_sound {P : Program} {μ : Mu} {f f' : Value} {args args' : List Value} (hf : VRel μ f f') (ha : LRel μ args args') {d : Deferred} (e : deferE f args = some d) (w : World) :
    ∃ d', (Deferred.ofValue f' args'.toArray).run P w = .ok d' w ∧ DRel μ d d' := by
  unfold deferE at e
  split at e
  · rename_i fn first captured
    cases e
    cases hf with
    | func fn h1 h2 h3 h4 =>
      rename_i first' captured'
      have hr1 : LRel μ first.toList first'.toList := ARel.list ⟨h1, h3⟩
      refine ⟨{ target := .fn fn captured', args := first' ++ args'.toArray }, rfl, .fn fn ⟨h2, h4⟩, ?_⟩
      have := (hr1.append ha).arr
      have e2 : (first'.toList ++ args').toArray = first' ++ args'.toArray := by apply Array.ext'; simp
      rw [e2] at this
      exact this
  · cases e
/-- A string gone over rune by rune. -/
def nextStrE (s : ByteArray) (pos : Nat) : Option (Value × Nat) :=
  if pos < s.data.toList.length then
    let r := Utf8.decode s pos
    some (.tuple #[.bool true, .int .i64 pos, .int .i32 r.1], pos + r.2)
  else none
def bytesOfE (P : Program) (s d : TypeId) (x : Value) (h : Heap) (n : Nat) : Option (ARes × Heap × Nat) :=
  match P.underlying s, P.underlying d, x with
  | some .string, some (.slice e), .string b => match P.underlying e with
    | some (.int .u8) => some (.val (.slice (some ⟨n, 0, none⟩) b.data.toList.length U), h.set n (.cells (b.data.toList.map fun c => .int .u8 c.toNat) true ⟨e, 1, false⟩), n + 1)
    | _ => none
  | _, _, _ => none
theorem modify_push (a : Array Obj) (x : Obj) (f : Obj → Obj) : (a.push x).modify a.size f = a.push (f x) := by
  apply Array.ext
  · simp
  · intro i h1 h2
    rw [Array.getElem_modify (by simpa using h1)]
    by_cases e : a.size = i
    · subst e; simp
    · have : i < a.size := by simp at h2; omega
      rw [if_neg e, Array.getElem_push_lt this, Array.getElem_push_lt this]
theorem flat_bytes (l : List UInt8) : ((l.map fun c => Value.int .u8 c.toNat).all flat) = true := by
  rw [List.all_eq_true]
  intro y hy
  simp at hy
  obtain ⟨b, _, rfl⟩ := hy
  rfl
theorem bytesOfE_sound {P : Program} {μ : Mu} {h : Heap} {n : Nat} {w : World} (r : Rel P μ h n w) {s d : TypeId} {x x' : Value} (hx : VRel μ x x') {y : ARes × Heap × Nat} (e : bytesOfE P s d x h n = some y) :
    ARun P (do pure (.value (← convert s d x'))) μ h n w y := by
  unfold bytesOfE at e
  split at e
  · rename_i el b hs hd
    cases hx
    split at e
    · rename_i he
      cases e
      let cap := (Question.appendCap b.size 0 el).cut (w.tape w.drawn (.appendCap b.size 0 el))
      have hcap : b.size ≤ cap := Nat.le_add_right _ _
      obtain ⟨g1, g2⟩ := (Rel.of_heap (w := w) (w' := { w with drawn := w.drawn + 1 }) rfl r).row (rest := List.replicate (cap - b.size) (.int .u8 0)) (LRel.flat (flat_bytes b.data.toList)) el 1 false (by simp) (cap, cap + 1) (.inl (by simp; omega))
      refine ⟨_, _, ?_, g1, (Grow.drew μ h w _).trans g2, Nat.le_succ _⟩
      have hrun : (convert s d (.string b)).run P w = .ok (.slice (some ⟨w.heap.size, 0, none⟩) b.size cap) { w with drawn := w.drawn + 1, heap := w.heap.push (.cells ((b.data.toList.map fun c : UInt8 => Value.int .u8 (c.toNat : Int)) ++ List.replicate (cap - b.size) (Value.int .u8 0)).toArray el (cap, cap + 1)) } := by
        have hc : (convert s d (.string b)).run P w = (Conv.stringToBytes el b).run P w := by
          simp [convert, run_underlying_of hs, run_underlying_of hd, run_underlying_of he]
        rw [hc]
        have harr : (b.data.map (fun c => Value.int .u8 (c.toNat : Int)) ++ Array.replicate (cap - b.size) (.int .u8 0) : Array Value) = ((b.data.toList.map fun c : UInt8 => Value.int .u8 (c.toNat : Int)) ++ List.replicate (cap - b.size) (Value.int .u8 0)).toArray := by
          apply Array.ext'; simp
        simp only [Conv.stringToBytes, Sem.run_bind, run_choose, Question.forced, Bool.false_eq_true, if_false, Result.andThen_ok]
        rw [show (Question.appendCap b.size 0 el).cut (w.tape w.drawn (.appendCap b.size 0 el)) = cap from rfl, harr]
        simp only [newRow, run_newObj, Result.andThen_ok, markStringish, Sem.run_bind, run_shape, World.shape?]
        simp [World.freeze, hcap, modify_push]
      simp only [Sem.run_bind, hrun, Result.andThen_ok, Sem.run_pure]
      refine .val ?_
      have := VRel.newSlice (μ := μ) (n := n) (m := ⟨w.heap.size, 0, (b.data.toList.map fun c => Value.int .u8 c.toNat).length + (List.replicate (cap - b.size) (Value.int .u8 0)).length, 1⟩) rfl b.data.toList.length U cap (.inr ⟨rfl, by simpa using hcap, by simp; omega⟩)
      simpa using this
    · cases e
  · cases e
end Go.Abs
