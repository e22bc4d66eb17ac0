/- How an abstract heap turns: a new object, an object that is owned turned, one taken away; and what that is in the world. -/
import Derived.Test.YtkpjfibpaojelaaGreatDoorAbs2
namespace Go.Abs
open Go

def Mu.set (μ : Mu) (b : Nat) (m : Im) : Mu := fun i => if i = b then some m else μ i

theorem Mu.le_set {μ : Mu} {b : Nat} {m : Im} (h : μ b = none) : μ.le (μ.set b m) := by
  intro i x e
  unfold Mu.set
  split
  · rename_i hi; subst hi; rw [h] at e; cases e
  · exact e

theorem Mu.set_same (μ : Mu) (b : Nat) (m : Im) : (μ.set b m) b = some m := by simp [Mu.set]
theorem Mu.set_ne (μ : Mu) {b i : Nat} (m : Im) (h : i ≠ b) : (μ.set b m) i = μ i := by simp [Mu.set, h]

theorem Rel.of_heap {P : Program} {μ : Mu} {h : Heap} {n : Nat} {w w' : World} (e : w'.heap = w.heap) (r : Rel P μ h n w) : Rel P μ h n w' :=
  ⟨fun b o hb => by obtain ⟨m, x, a, c, d⟩ := r.obj b o hb; exact ⟨m, x, a, e ▸ c, d⟩, r.sep, r.bound, r.glob⟩

theorem Grow.drew (μ : Mu) (h : Heap) (w : World) (d : Nat) : Grow μ h w μ h { w with drawn := d } :=
  ⟨μ.le_refl, Nat.le_refl _, rfl, rfl, rfl, fun _ _ _ => rfl, fun b' o' m' a b c _ => ⟨b', o', m', a, b, c, rfl⟩⟩

/-- A new block. -/
theorem Rel.push {P : Program} {μ : Mu} {h : Heap} {n : Nat} {w : World} (r : Rel P μ h n w) (o : AObj) (x : Obj) (m : Im) (hm : m.blk = w.heap.size)
    (hn : P.globals.size ≤ n) (ho : ORel (μ.set n m) o x m) :
    Rel P (μ.set n m) (h.set n o) (n + 1) { w with heap := w.heap.push x } ∧ Grow μ h w (μ.set n m) (h.set n o) { w with heap := w.heap.push x } := by
  have hnone := r.bound n (Nat.le_refl _)
  have hle : μ.le (μ.set n m) := Mu.le_set hnone
  have hlt : ∀ b o m, h.get b = some o → μ b = some m → m.blk < w.heap.size := by
    intro b o m' e1 e2
    obtain ⟨m0, x0, f1, f2, _⟩ := r.obj b o e1
    rw [e2] at f1; cases f1
    exact (Array.getElem?_eq_some_iff.1 f2).1
  refine ⟨⟨?_, ?_, ?_, ?_⟩, ⟨hle, by simp, rfl, rfl, rfl, ?_, ?_⟩⟩
  · intro b o' e
    rw [Trie.get_set] at e
    by_cases hb : b = n
    · subst hb; simp only [if_true, Option.some.injEq] at e; subst e
      exact ⟨m, x, Mu.set_same _ _ _, by simp [hm], ho⟩
    · rw [if_neg hb] at e
      obtain ⟨m', x', f1, f2, f3⟩ := r.obj b o' e
      refine ⟨m', x', by rw [Mu.set_ne _ _ hb]; exact f1, ?_, f3.mono hle⟩
      have := (Array.getElem?_eq_some_iff.1 f2).1
      show (w.heap.push x)[m'.blk]? = _
      rw [Array.getElem?_push, if_neg (by omega)]; exact f2
  · intro b b' o1 o2 m1 m2 e1 e2 e3 e4 e5 e6
    rw [Trie.get_set] at e1 e4
    by_cases hb : b = n
    · subst hb
      rw [if_neg (Ne.symm e3)] at e4
      rw [Mu.set_same] at e5; rw [Mu.set_ne _ _ (Ne.symm e3)] at e6
      cases e5
      have := hlt _ _ _ e4 e6
      omega
    · rw [if_neg hb] at e1
      rw [Mu.set_ne _ _ hb] at e5
      by_cases hb' : b' = n
      · subst hb'
        rw [Mu.set_same] at e6; cases e6
        have := hlt _ _ _ e1 e5
        omega
      · rw [if_neg hb'] at e4
        rw [Mu.set_ne _ _ hb'] at e6
        exact r.sep b b' o1 o2 m1 m2 e1 e2 e3 e4 e5 e6
  · intro b hb
    rw [Mu.set_ne _ _ (by omega)]; exact r.bound b (by omega)
  · intro g hg
    obtain ⟨m', f1, f2, f3⟩ := r.glob g hg
    exact ⟨m', by rw [Mu.set_ne _ _ (by omega)]; exact f1, f2, f3⟩
  · intro c hc _
    show (w.heap.push x)[c]? = _
    rw [Array.getElem?_push, if_neg (by omega)]
  · intro b' o' m' e1 e2 e3 e4
    rw [Trie.get_set] at e1
    by_cases hb : b' = n
    · subst hb; rw [Mu.set_same] at e3; cases e3; omega
    · rw [if_neg hb] at e1; rw [Mu.set_ne _ _ hb] at e3
      exact ⟨b', o', m', e1, e2, e3, rfl⟩

/-- An object that is owned is turned. -/
theorem Rel.turn {P : Program} {μ : Mu} {h : Heap} {n : Nat} {w w' : World} (r : Rel P μ h n w) {b : Nat} {o : AObj} (o' : AObj) (x' : Obj) {m : Im}
    (hb : h.get b = some o) (he : o.excl = true) (hm : μ b = some m) (ho : ORel μ o' x' m)
    (hw : w'.heap = w.heap.setIfInBounds m.blk x') (hos : w'.os = w.os) (ht : w'.tape = w.tape) (hout : w'.output = w.output) :
    Rel P μ (h.set b o') n w' ∧ Grow μ h w μ (h.set b o') w' := by
  obtain ⟨m0, x0, f1, f2, _⟩ := r.obj b o hb
  rw [hm] at f1; cases f1
  have hlt := (Array.getElem?_eq_some_iff.1 f2).1
  refine ⟨⟨?_, ?_, r.bound, r.glob⟩, ⟨μ.le_refl, by rw [hw]; simp, hos, ht, hout, ?_, ?_⟩⟩
  · intro b1 o1 e
    rw [Trie.get_set] at e
    by_cases hb1 : b1 = b
    · subst hb1; simp only [if_true, Option.some.injEq] at e; subst e
      exact ⟨m, x', hm, by rw [hw]; simp [hlt], ho⟩
    · rw [if_neg hb1] at e
      obtain ⟨m', x1, g1, g2, g3⟩ := r.obj b1 o1 e
      have hne := r.sep b b1 o o1 m m' hb he (Ne.symm hb1) e hm g1
      exact ⟨m', x1, g1, by rw [hw, Array.getElem?_setIfInBounds_ne hne]; exact g2, g3⟩
  · intro b1 b2 o1 o2 m1 m2 e1 e2 e3 e4 e5 e6
    rw [Trie.get_set] at e1 e4
    by_cases h1 : b1 = b
    · subst h1
      rw [if_neg (Ne.symm e3)] at e4
      exact r.sep b1 b2 o o2 m1 m2 hb he e3 e4 e5 e6
    · rw [if_neg h1] at e1
      by_cases h2 : b2 = b
      · subst h2; exact r.sep b1 b2 o1 o m1 m2 e1 e2 e3 hb e5 e6
      · rw [if_neg h2] at e4
        exact r.sep b1 b2 o1 o2 m1 m2 e1 e2 e3 e4 e5 e6
  · intro c _ hk
    have := hk b o m hb he hm
    rw [hw, Array.getElem?_setIfInBounds_ne this]
  · intro b1 o1 m1 e1 e2 e3 _
    rw [Trie.get_set] at e1
    by_cases h1 : b1 = b
    · subst h1; exact ⟨b1, o, m1, hb, he, e3, rfl⟩
    · rw [if_neg h1] at e1; exact ⟨b1, o1, m1, e1, e2, e3, rfl⟩

/-- An object that is owned goes over to a new name, turned. -/
theorem Rel.move {P : Program} {μ : Mu} {h : Heap} {n : Nat} {w w' : World} (r : Rel P μ h n w) {b : Nat} {o : AObj} (o' : AObj) (x' : Obj) {m m' : Im} (hn : P.globals.size ≤ n)
    (hb : h.get b = some o) (he : o.excl = true) (hm : μ b = some m) (hm' : m'.blk = m.blk) (ho : ORel (μ.set n m') o' x' m')
    (hw : w'.heap = w.heap.setIfInBounds m.blk x') (hos : w'.os = w.os) (ht : w'.tape = w.tape) (hout : w'.output = w.output) :
    Rel P (μ.set n m') ((h.del b).set n o') (n + 1) w' ∧ Grow μ h w (μ.set n m') ((h.del b).set n o') w' := by
  obtain ⟨m0, x0, f1, f2, _⟩ := r.obj b o hb
  rw [hm] at f1; cases f1
  have hlt := (Array.getElem?_eq_some_iff.1 f2).1
  have hnone := r.bound n (Nat.le_refl _)
  have hle : μ.le (μ.set n m') := Mu.le_set hnone
  have hbn : b ≠ n := by rintro rfl; rw [hnone] at hm; cases hm
  have hget : ∀ i, ((h.del b).set n o').get i = if i = n then some o' else if i = b then none else h.get i := by
    intro i; rw [Trie.get_set, Trie.get_del]
  refine ⟨⟨?_, ?_, ?_, ?_⟩, ⟨hle, by rw [hw]; simp, hos, ht, hout, ?_, ?_⟩⟩
  · intro b1 o1 e
    rw [hget] at e
    by_cases h1 : b1 = n
    · rw [if_pos h1] at e; subst h1; simp only [Option.some.injEq] at e; subst e
      exact ⟨m', x', Mu.set_same _ _ _, by rw [hm', hw]; simp [hlt], ho⟩
    · rw [if_neg h1] at e
      by_cases h2 : b1 = b
      · rw [if_pos h2] at e; cases e
      · rw [if_neg h2] at e
        obtain ⟨m1, x1, g1, g2, g3⟩ := r.obj b1 o1 e
        have hne := r.sep b b1 o o1 m m1 hb he (Ne.symm h2) e hm g1
        exact ⟨m1, x1, by rw [Mu.set_ne _ _ h1]; exact g1, by rw [hw, Array.getElem?_setIfInBounds_ne hne]; exact g2, g3.mono hle⟩
  · intro b1 b2 o1 o2 m1 m2 e1 e2 e3 e4 e5 e6
    rw [hget] at e1 e4
    by_cases h1 : b1 = n
    · subst h1
      rw [if_neg (Ne.symm e3)] at e4
      rw [Mu.set_same] at e5; rw [Mu.set_ne _ _ (Ne.symm e3)] at e6; cases e5
      by_cases h2 : b2 = b
      · rw [if_pos h2] at e4; cases e4
      · rw [if_neg h2] at e4
        rw [hm']; exact r.sep b b2 o o2 m m2 hb he (Ne.symm h2) e4 hm e6
    · rw [if_neg h1] at e1; rw [Mu.set_ne _ _ h1] at e5
      by_cases h1b : b1 = b
      · rw [if_pos h1b] at e1; cases e1
      · rw [if_neg h1b] at e1
        by_cases h2 : b2 = n
        · subst h2; rw [Mu.set_same] at e6; cases e6
          rw [hm']; exact fun e => r.sep b b1 o o1 m m1 hb he (Ne.symm h1b) e1 hm e5 e.symm
        · rw [if_neg h2] at e4; rw [Mu.set_ne _ _ h2] at e6
          by_cases h2b : b2 = b
          · rw [if_pos h2b] at e4; cases e4
          · rw [if_neg h2b] at e4
            exact r.sep b1 b2 o1 o2 m1 m2 e1 e2 e3 e4 e5 e6
  · intro i hi
    rw [Mu.set_ne _ _ (by omega)]; exact r.bound i (by omega)
  · intro g hg
    obtain ⟨m1, g1, g2, g3⟩ := r.glob g hg
    exact ⟨m1, by rw [Mu.set_ne _ _ (by omega)]; exact g1, g2, g3⟩
  · intro c _ hk
    have := hk b o m hb he hm
    rw [hw, Array.getElem?_setIfInBounds_ne this]
  · intro b1 o1 m1 e1 e2 e3 e4
    rw [hget] at e1
    by_cases h1 : b1 = n
    · subst h1; rw [Mu.set_same] at e3; cases e3
      exact ⟨b, o, m, hb, he, hm, hm'.symm⟩
    · rw [if_neg h1] at e1; rw [Mu.set_ne _ _ h1] at e3
      by_cases h2 : b1 = b
      · rw [if_pos h2] at e1; cases e1
      · rw [if_neg h2] at e1; exact ⟨b1, o1, m1, e1, e2, e3, rfl⟩
end Go.Abs
