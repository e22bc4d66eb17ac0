/- Abstract states over the model: tries, values up to renaming of blocks, the relation between an abstract heap and a world. -/
import Derived.Calls
import Derived.Defers
import Derived.Recover
import Derived.Orders
namespace Go.Abs
open Go

/-! Tries: maps from numbers, with laws that need no side condition, and that the kernel can run. -/
inductive Trie (α : Type) where
  | nil
  | node (v : Option α) (l r : Trie α)

namespace Trie
variable {α : Type}
def get : Trie α → Nat → Option α
  | .nil, _ => none
  | .node v l r, i => if i = 0 then v else if i % 2 = 1 then l.get ((i - 1) / 2) else r.get ((i - 1) / 2)

def setF (x : Option α) : Nat → Trie α → Nat → Trie α
  | 0, t, _ => t
  | f + 1, .nil, i => if i = 0 then .node x .nil .nil else if i % 2 = 1 then .node none (setF x f .nil ((i - 1) / 2)) .nil else .node none .nil (setF x f .nil ((i - 1) / 2))
  | f + 1, .node v l r, i => if i = 0 then .node x l r else if i % 2 = 1 then .node v (setF x f l ((i - 1) / 2)) r else .node v l (setF x f r ((i - 1) / 2))

theorem get_nil (i : Nat) : (Trie.nil : Trie α).get i = none := rfl

theorem get_setF (x : Option α) : ∀ (f : Nat) (t : Trie α) (i j : Nat), i < f → (setF x f t i).get j = if j = i then x else t.get j := by
  intro f
  induction f with
  | zero => intro t i j h; omega
  | succ f ih =>
    intro t i j h
    cases t with
    | nil =>
      simp only [setF]
      by_cases hi : i = 0
      · subst hi; simp only [if_true, get]
        by_cases hj : j = 0
        · simp [hj]
        · simp [hj]
      · have hlt : (i - 1) / 2 < f := by omega
        by_cases h2 : i % 2 = 1
        · simp only [hi, h2, if_true, if_false, get]
          by_cases hj : j = 0
          · subst hj; simp; omega
          · by_cases hj2 : j % 2 = 1
            · simp only [hj, hj2, if_true, if_false]; rw [ih _ _ _ hlt, get_nil]
              by_cases e : j = i
              · subst e; simp
              · rw [if_neg (by omega), if_neg e]
            · simp only [hj, hj2, if_false]; rw [if_neg (by omega)]
        · simp only [hi, h2, if_false, get]
          by_cases hj : j = 0
          · subst hj; simp; omega
          · by_cases hj2 : j % 2 = 1
            · simp only [hj, hj2, if_true, if_false]; rw [if_neg (by omega)]
            · simp only [hj, hj2, if_false]; rw [ih _ _ _ hlt, get_nil]
              by_cases e : j = i
              · subst e; simp
              · rw [if_neg (by omega), if_neg e]
    | node v l r =>
      simp only [setF]
      by_cases hi : i = 0
      · subst hi; simp only [if_true, get]
        by_cases hj : j = 0
        · simp [hj]
        · simp [hj]
      · have hlt : (i - 1) / 2 < f := by omega
        by_cases h2 : i % 2 = 1
        · simp only [hi, h2, if_true, if_false, get]
          by_cases hj : j = 0
          · subst hj; simp; omega
          · by_cases hj2 : j % 2 = 1
            · simp only [hj, hj2, if_true, if_false]; rw [ih _ _ _ hlt]
              by_cases e : j = i
              · subst e; simp
              · rw [if_neg (by omega), if_neg e]
            · simp only [hj, hj2, if_false]; rw [if_neg (by omega)]
        · simp only [hi, h2, if_false, get]
          by_cases hj : j = 0
          · subst hj; simp; omega
          · by_cases hj2 : j % 2 = 1
            · simp only [hj, hj2, if_true, if_false]; rw [if_neg (by omega)]
            · simp only [hj, hj2, if_false]; rw [ih _ _ _ hlt]
              by_cases e : j = i
              · subst e; simp
              · rw [if_neg (by omega), if_neg e]

def put (t : Trie α) (i : Nat) (x : Option α) : Trie α := setF x (i + 1) t i
def set (t : Trie α) (i : Nat) (x : α) : Trie α := t.put i (some x)
def del (t : Trie α) (i : Nat) : Trie α := t.put i none

theorem get_put (t : Trie α) (i j : Nat) (x : Option α) : (t.put i x).get j = if j = i then x else t.get j := get_setF x _ t i j (by omega)
theorem get_set (t : Trie α) (i j : Nat) (x : α) : (t.set i x).get j = if j = i then some x else t.get j := get_put t i j _
theorem get_del (t : Trie α) (i j : Nat) : (t.del i).get j = if j = i then none else t.get j := get_put t i j _
theorem get_set_same (t : Trie α) (i : Nat) (x : α) : (t.set i x).get i = some x := by rw [get_set, if_pos rfl]
theorem get_set_ne (t : Trie α) {i j : Nat} (x : α) (h : j ≠ i) : (t.set i x).get j = t.get j := by rw [get_set, if_neg h]
end Trie

/-! Values up to renaming. -/

/-- Where an abstract block lies: the block, the first cell, how many cells the block has, the size of an element that is appended (0: none is). -/
structure Im where
  blk : Nat
  off : Nat
  sz : Nat
  k : Nat

abbrev Mu := Nat → Option Im

/-- The capacity of a slice of which nothing is known. -/
def U : Nat := 2 ^ 64

inductive VRel (μ : Mu) : Value → Value → Prop
  | bool (b : Bool) : VRel μ (.bool b) (.bool b)
  | int (k : IntKind) (n : Int) : VRel μ (.int k n) (.int k n)
  | string (s : ByteArray) : VRel μ (.string s) (.string s)
  | pnil : VRel μ (.pointer none) (.pointer none)
  | ptr {b : Nat} {m : Im} (o : Nat) (h : μ b = some m) : VRel μ (.pointer (some ⟨b, o, none⟩)) (.pointer (some ⟨m.blk, m.off + o, none⟩))
  | snil : VRel μ (.slice none 0 0) (.slice none 0 0)
  | slice {b : Nat} {m : Im} (o len cap cap' : Nat) (h : μ b = some m)
      (hc : (cap < U ∧ cap = cap') ∨ (cap = U ∧ len ≤ cap' ∧ m.off + o + cap' * m.k ≤ m.sz)) :
      VRel μ (.slice (some ⟨b, o, none⟩) len cap) (.slice (some ⟨m.blk, m.off + o, none⟩) len cap')
  | mnil : VRel μ (.map none) (.map none)
  | map {b : Nat} {m : Im} (h : μ b = some m) : VRel μ (.map (some b)) (.map (some m.blk))
  | nilFunc : VRel μ .nilFunc .nilFunc
  | func (fn : Fn) {f c f' c' : Array Value} (hf : f.size = f'.size) (hc : c.size = c'.size)
      (hf' : ∀ (i : Nat) (x y : Value), f[i]? = some x → f'[i]? = some y → VRel μ x y)
      (hc' : ∀ (i : Nat) (x y : Value), c[i]? = some x → c'[i]? = some y → VRel μ x y) : VRel μ (.func fn f c) (.func fn f' c')
  | nilIface : VRel μ .nilIface .nilIface
  | iface (t : TypeId) {v v' : Value} (h : VRel μ v v') : VRel μ (.iface t v) (.iface t v')
  | agg {c c' : Array Value} (hc : c.size = c'.size) (hc' : ∀ (i : Nat) (x y : Value), c[i]? = some x → c'[i]? = some y → VRel μ x y) : VRel μ (.agg c) (.agg c')
  | tuple {c c' : Array Value} (hc : c.size = c'.size) (hc' : ∀ (i : Nat) (x y : Value), c[i]? = some x → c'[i]? = some y → VRel μ x y) : VRel μ (.tuple c) (.tuple c')

/-- Arrays of values, place by place. -/
def ARel (μ : Mu) (c c' : Array Value) : Prop := c.size = c'.size ∧ ∀ (i : Nat) (x y : Value), c[i]? = some x → c'[i]? = some y → VRel μ x y

/-- One renaming goes on from another one. -/
def Mu.le (μ μ' : Mu) : Prop := ∀ b m, μ b = some m → μ' b = some m
theorem Mu.le_refl (μ : Mu) : μ.le μ := fun _ _ h => h
theorem Mu.le_trans {a b c : Mu} (h : a.le b) (k : b.le c) : a.le c := fun x m e => k x m (h x m e)

theorem VRel.mono {μ μ' : Mu} (h : μ.le μ') {x y : Value} (r : VRel μ x y) : VRel μ' x y := by
  induction r with
  | bool b => exact .bool b
  | int k n => exact .int k n
  | string s => exact .string s
  | pnil => exact .pnil
  | ptr o e => exact .ptr o (h _ _ e)
  | snil => exact .snil
  | slice o len cap cap' e hc => exact .slice o len cap cap' (h _ _ e) hc
  | mnil => exact .mnil
  | map e => exact .map (h _ _ e)
  | nilFunc => exact .nilFunc
  | func fn hf hc _ _ ih1 ih2 => exact .func fn hf hc ih1 ih2
  | nilIface => exact .nilIface
  | iface t _ ih => exact .iface t ih
  | agg hc _ ih => exact .agg hc ih
  | tuple hc _ ih => exact .tuple hc ih

theorem ARel.mono {μ μ' : Mu} (h : μ.le μ') {x y : Array Value} (r : ARel μ x y) : ARel μ' x y := ⟨r.1, fun i a b ha hb => (r.2 i a b ha hb).mono h⟩
theorem ARel.agg {μ : Mu} {x y : Array Value} (r : ARel μ x y) : VRel μ (.agg x) (.agg y) := .agg r.1 r.2
theorem ARel.tuple {μ : Mu} {x y : Array Value} (r : ARel μ x y) : VRel μ (.tuple x) (.tuple y) := .tuple r.1 r.2
theorem ARel.get {μ : Mu} {x y : Array Value} (r : ARel μ x y) {i : Nat} {a : Value} (h : x[i]? = some a) : ∃ b, y[i]? = some b ∧ VRel μ a b := by
  obtain ⟨hlt, _⟩ := Array.getElem?_eq_some_iff.1 h
  have hy : i < y.size := r.1 ▸ hlt
  exact ⟨y[i], Array.getElem?_eq_getElem hy, r.2 i a _ h (Array.getElem?_eq_getElem hy)⟩

/-- Without an address: as it stands on both sides. -/
def flatN : Nat → Value → Bool
  | _, .bool _ | _, .int _ _ | _, .string _ | _, .pointer none | _, .map none | _, .nilFunc | _, .nilIface => true
  | _, .slice none l c => l == 0 && c == 0
  | n + 1, .iface _ v => flatN n v
  | n + 1, .agg c => c.toList.all (flatN n)
  | n + 1, .tuple c => c.toList.all (flatN n)
  | _, .func _ f c => f.toList.isEmpty && c.toList.isEmpty
  | _, _ => false

def flat (v : Value) : Bool := flatN 64 v

theorem all_getElem? {p : Value → Bool} {c : Array Value} (h : c.toList.all p = true) {i : Nat} {x : Value} (hx : c[i]? = some x) : p x = true := by
  rw [List.all_eq_true] at h
  exact h x (by rw [Array.mem_toList_iff]; exact Array.mem_of_getElem? hx)

theorem VRel.flatN_self {μ : Mu} : ∀ (n : Nat) (v : Value), flatN n v = true → VRel μ v v := by
  intro n
  induction n with
  | zero =>
    intro v h
    cases v with
    | bool b => exact .bool b
    | int k n => exact .int k n
      | string s => exact .string s
    | pointer a => cases a with
      | none => exact .pnil
      | some a => simp [flatN] at h
    | slice a l c => cases a with
      | none => simp [flatN] at h; obtain ⟨rfl, rfl⟩ := h; exact .snil
      | some a => simp [flatN] at h
    | map r => cases r with
      | none => exact .mnil
      | some a => simp [flatN] at h
    | nilFunc => exact .nilFunc
    | nilIface => exact .nilIface
    | func fn f c =>
      simp [flatN] at h
      obtain ⟨rfl, rfl⟩ := h
      exact .func fn rfl rfl (by simp) (by simp)
    | _ => simp [flatN] at h
  | succ n ih =>
    intro v h
    cases v with
    | bool b => exact .bool b
    | int k n => exact .int k n
      | string s => exact .string s
    | pointer a => cases a with
      | none => exact .pnil
      | some a => simp [flatN] at h
    | slice a l c => cases a with
      | none => simp [flatN] at h; obtain ⟨rfl, rfl⟩ := h; exact .snil
      | some a => simp [flatN] at h
    | map r => cases r with
      | none => exact .mnil
      | some a => simp [flatN] at h
    | nilFunc => exact .nilFunc
    | nilIface => exact .nilIface
    | func fn f c =>
      simp [flatN] at h
      obtain ⟨rfl, rfl⟩ := h
      exact .func fn rfl rfl (by simp) (by simp)
    | iface t v => exact .iface t (ih v (by simpa [flatN] using h))
    | agg c =>
      refine .agg rfl fun i x y hx hy => ?_
      have e : x = y := by simpa [hx] using hy
      subst e
      exact ih x (all_getElem? (by simpa only [flatN] using h) hx)
    | tuple c =>
      refine .tuple rfl fun i x y hx hy => ?_
      have e : x = y := by simpa [hx] using hy
      subst e
      exact ih x (all_getElem? (by simpa only [flatN] using h) hx)
    | _ => simp [flatN] at h

theorem VRel.flat_self {μ : Mu} {v : Value} (h : flat v = true) : VRel μ v v := VRel.flatN_self 64 v h

theorem arr_eq {c c' : Array Value} (hs : c.size = c'.size) (h : ∀ (i : Nat) (x y : Value), c[i]? = some x → c'[i]? = some y → x = y) : c = c' := by
  apply Array.ext hs
  intro i h1 h2
  exact h i _ _ (Array.getElem?_eq_getElem h1) (Array.getElem?_eq_getElem h2)

theorem VRel.flatN_eq {μ : Mu} {v v' : Value} (r : VRel μ v v') : ∀ n : Nat, flatN n v = true → v = v' := by
  induction r with
  | bool | int | string | pnil | snil | mnil | nilFunc | nilIface => intros; rfl
  | ptr o e => intro n h; cases n <;> simp [flatN] at h
  | slice o len cap cap' e hc => intro n h; cases n <;> simp [flatN] at h
  | map e => intro n h; cases n <;> simp [flatN] at h
  | @func fn f c f' c' hf hc _ _ ih1 ih2 =>
    intro n h
    have h' : f = #[] ∧ c = #[] := by cases n <;> simpa [flatN] using h
    obtain ⟨rfl, rfl⟩ := h'
    have e1 := Array.eq_empty_of_size_eq_zero hf.symm
    have e2 := Array.eq_empty_of_size_eq_zero hc.symm
    rw [e1, e2]
  | iface t _ ih =>
    intro n h
    cases n with
    | zero => simp [flatN] at h
    | succ n => rw [ih n (by simpa [flatN] using h)]
  | agg hc _ ih =>
    intro n h
    cases n with
    | zero => simp [flatN] at h
    | succ n =>
      have h' : _ = true := h
      simp only [flatN] at h'
      congr 1
      exact arr_eq hc fun i x y hx hy => ih i x y hx hy n (all_getElem? h' hx)
  | tuple hc _ ih =>
    intro n h
    cases n with
    | zero => simp [flatN] at h
    | succ n =>
      have h' : _ = true := h
      simp only [flatN] at h'
      congr 1
      exact arr_eq hc fun i x y hx hy => ih i x y hx hy n (all_getElem? h' hx)

theorem VRel.flat_eq {μ : Mu} {v v' : Value} (r : VRel μ v v') (h : flat v = true) : v' = v := (r.flatN_eq 64 h).symm

end Go.Abs
