/- Appends: what they are on both sides. -/
import Derived.Test.YtkpjfibpaojelaaGreatDoorAbs15
namespace Go.Abs
open Go

theorem length_setAll_arr (xs cs : List Value) (o : Nat) : (setAll cs o xs).length = cs.length := length_setAll xs cs o

theorem get_setAll : ∀ (xs cs : List Value) (o i : Nat), o + xs.length ≤ cs.length → (setAll cs o xs)[i]? = if o ≤ i ∧ i < o + xs.length then xs[i - o]? else cs[i]? := by
  intro xs
  induction xs with
  | nil => intro cs o i _; simp only [setAll, List.length_nil]; rw [if_neg (by omega)]
  | cons x xs ih =>
    intro cs o i h
    simp only [List.length_cons] at h
    simp only [setAll]
    rw [ih _ _ _ (by simp; omega)]
    by_cases h1 : o + 1 ≤ i ∧ i < o + 1 + xs.length
    · rw [if_pos h1, if_pos (by simp only [List.length_cons]; omega)]
      obtain ⟨k, rfl⟩ : ∃ k, i = o + 1 + k := ⟨i - (o + 1), by omega⟩
      rw [show o + 1 + k - (o + 1) = k by omega, show o + 1 + k - o = k + 1 by omega]
      simp
    · rw [if_neg h1]
      by_cases h2 : i = o
      · subst h2
        rw [if_pos (by simp only [List.length_cons]; omega), List.getElem?_set_self (by omega), Nat.sub_self]
        rfl
      · rw [if_neg (by simp only [List.length_cons]; omega), List.getElem?_set_ne (Ne.symm h2)]

theorem run_storeCells_conc {P : Program} : ∀ (xs : List Value) (w : World) (b p i : Nat) (c : Array Value) (e : TypeId) (fr : Nat × Nat), w.heap[b]? = some (.cells c e fr) →
    (xs.all fun x => x.oneCell') = true → p + i + xs.length ≤ c.size → (∀ j, p ≤ j → j < c.size → ¬ (fr.1 ≤ j ∧ j < fr.2)) →
    (storeCells ⟨b, p, none⟩ xs i).run P w = .ok () { w with heap := w.heap.setIfInBounds b (.cells (setAll c.toList (p + i) xs).toArray e fr) } := by
  intro xs
  induction xs with
  | nil =>
    intro w b p i c e fr hb _ _ _
    simp only [storeCells, Sem.run_pure, setAll, Array.toArray_toList]
    congr 1
    obtain ⟨hlt, hx⟩ := Array.getElem?_eq_some_iff.1 hb
    have : w.heap.setIfInBounds b (.cells c e fr) = w.heap := by
      apply Array.ext
      · simp
      · intro j h1 h2
        rw [Array.getElem_setIfInBounds]
        split
        · rename_i h; subst h; exact hx.symm
        · rfl
    rw [this]
  | cons x xs ih =>
    intro w b p i c e fr hb h1 hle hfr
    simp only [List.all_cons, Bool.and_eq_true] at h1
    simp only [List.length_cons] at hle
    have hcell : w.cell? ⟨b, p + i, none⟩ = some (c[p + i]'(by omega)) := by rw [cell_of_block hb, Array.getElem?_eq_getElem]
    have hfro : w.frozen? ⟨b, p + i, none⟩ = false := by
      have := hfr (p + i) (by omega) (by omega)
      simp only [World.frozen?, hb]
      simpa [Bool.and_eq_true, decide_eq_true_eq] using this
    have hset : w.setCell ⟨b, p + i, none⟩ x = { w with heap := w.heap.setIfInBounds b (.cells (c.setIfInBounds (p + i) x) e fr) } := by
      simp only [World.setCell]
      rw [modify_of hb]
      simp
    obtain ⟨hlt, _⟩ := Array.getElem?_eq_some_iff.1 hb
    simp only [storeCells, Sem.run_bind, Addr.add_plain]
    rw [run_store P w _ _ _ h1.1, hcell]
    simp only [hfro, Bool.false_eq_true, if_false, Result.andThen_ok]
    rw [hset, ih _ b p (i + 1) (c.setIfInBounds (p + i) x) e fr (by simp [hlt]) h1.2 (by simp; omega) (fun j h1 h2 => hfr j h1 (by simpa using h2))]
    congr 2
    simp only [Array.setIfInBounds_setIfInBounds]
    congr 3
    simp [setAll, Nat.add_assoc]

theorem LRel.all_oneCell {μ : Mu} {xs ys : List Value} (h : LRel μ xs ys) (k : (xs.all fun x => x.oneCell') = true) : (ys.all fun x => x.oneCell') = true := by
  induction h with
  | nil => rfl
  | cons hx _ ih =>
    simp only [List.all_cons, Bool.and_eq_true] at k ⊢
    exact ⟨by rw [hx.oneCell]; exact k.1, ih k.2⟩

theorem LRel.drop {μ : Mu} {xs ys : List Value} (h : LRel μ xs ys) : ∀ k, LRel μ (xs.drop k) (ys.drop k) := by
  induction h with
  | nil => intro k; simp; exact .nil
  | cons hx ht ih =>
    intro k
    cases k with
    | zero => exact .cons hx ht
    | succ k => simpa using ih k

theorem appendE_sound {P : Program} {μ : Mu} {h : Heap} {n : Nat} {w : World} (r : Rel P μ h n w) {ts : Array TypeId} {args args' : List Value} (ha : LRel μ args args') {y : ARes × Heap × Nat} (e : appendE P ts.toList args h n = some y) (ty : TypeId) :
    ARun P (do pure (.value (← Builtin.append_ ts ty args'.toArray))) μ h n w y := by
  unfold appendE at e
  split at e
  · rename_i st rest s x hts
    cases ha with
    | cons hs ht =>
    cases ht with
    | cons hx ht =>
    cases ht
    rename_i s' x'
    have h0 : ts[0]? = some st := by rw [← Array.getElem?_toList, hts]; rfl
    split at e
    · rename_i elem hu hz0
      have hzeros : ts[1]? = none ∨ ∃ xt d, ts[1]? = some xt ∧ P.underlying xt = some d ∧ ∀ k, d ≠ .int k := by
        rw [← Array.getElem?_toList, hts]
        cases rest with
        | nil => exact .inl rfl
        | cons xt rest =>
          simp only at hz0
          split at hz0
          · cases hz0
          · rename_i d hni hd
            exact .inr ⟨xt, d, rfl, hd, fun k hk => hni k hk⟩
          · cases hz0
      split at e
      · rename_i i z hi hz
        split at e
        · rename_i hzl
          obtain ⟨hzl, hspos⟩ := hzl
          split at e
          · rename_i xs m hsrc
            obtain ⟨xs', l1, l2, l3, l4⟩ := srcE_sound r hx hsrc
            have hxl : xs.length = m * i.size := by rw [← l2, l1.length]
            split at e
            · rename_i hone
              have hzf := (zeroOf_run hz w).2.1
              have hzd : ∀ d, (zeroValue elem).run P { w with drawn := d } = .ok z { w with drawn := d } := fun d => (zeroOf_run hz _).1
              split at e
              · -- nil
                cases hs
                split at e
                · rename_i hm0
                  cases e
                  subst hm0
                  have hx0 : xs' = [] := List.eq_nil_of_length_eq_zero (by rw [l2]; simp)
                  refine ⟨μ, w, ?_, r, .refl _ _ _, Nat.le_refl _⟩
                  have hrun := run_append_none (P := P) (w := w) (ts := ts) (ty := ty) (base := none) (cap := 0) h0 hu hi hzeros (l3 w.drawn) (Nat.le_refl _) (by have := l4 w.drawn; rw [hx0] at this; exact this)
                  simp only [Sem.run_bind, hrun, Result.andThen_ok, Sem.run_pure]
                  exact .val .snil
                · rename_i hm0
                  split at e
                  · rename_i hb
                    cases e
                    obtain ⟨newCap, c1, hrun⟩ := run_append_grow (P := P) (w := w) (ts := ts) (ty := ty) (base := none) (len := 0) (cap := 0) (old := []) (xs' := xs') (m := m) (z := z) h0 hu hi hzeros (l3 w.drawn) (by omega) (by simpa using hb.1) (by omega) (fun _ => rfl) l4 hzd
                    obtain ⟨g1, g2⟩ := (Rel.of_heap (w := w) (w' := { w with drawn := w.drawn + 1 }) rfl r).row (rest := zerosE z.cells.toList (newCap - (0 + m))) l1 elem i.size false (by simp) (0, 0) (.inr (Nat.le_refl _))
                    simp only [List.nil_append] at hrun
                    refine ⟨_, _, ?_, g1, (Grow.drew μ h w _).trans g2, Nat.le_succ _⟩
                    simp only [Sem.run_bind, hrun, Result.andThen_ok, Sem.run_pure, Nat.zero_add]
                    refine .val (.newSlice rfl _ _ _ (.inr ⟨rfl, by omega, ?_⟩))
                    simp only [length_zerosE, hzl, l2, Nat.zero_add] at c1 ⊢
                    rw [← Nat.add_mul]
                    exact Nat.le_of_eq (by congr 1; omega)
                  · cases e
              · rename_i b o len cap
                cases hs with
                | slice _ _ _ cap' hm hcc =>
                rename_i m0
                split at e
                · rename_i hm0
                  split at e
                  · rename_i hlc
                    cases e
                    subst hm0
                    have hx0 : xs' = [] := List.eq_nil_of_length_eq_zero (by rw [l2]; simp)
                    refine ⟨μ, w, ?_, r, .refl _ _ _, Nat.le_refl _⟩
                    have hle : len ≤ cap' := by rcases hcc with ⟨_, rfl⟩ | ⟨_, h, _⟩ <;> omega
                    have hrun := run_append_none (P := P) (w := w) (ts := ts) (ty := ty) (base := some ⟨m0.blk, m0.off + o, none⟩) (cap := cap') h0 hu hi hzeros (l3 w.drawn) hle (by have := l4 w.drawn; rw [hx0] at this; exact this)
                    simp only [Sem.run_bind, hrun, Result.andThen_ok, Sem.run_pure]
                    exact .val (.slice _ _ _ _ hm hcc)
                  · cases e
                · rename_i hm0
                  split at e
                  · rename_i hb
                    split at e
                    · -- a capacity that is not known
                      rename_i hU
                      have hcc' : len ≤ cap' ∧ m0.off + o + cap' * m0.k ≤ m0.sz := by
                        rcases hcc with ⟨h, _⟩ | ⟨_, h⟩
                        · omega
                        · exact h
                      split at e
                      · rename_i cs ci hbk
                        split at e
                        · rename_i hk
                          obtain ⟨hk1, hk2, hk3⟩ := hk
                          cases e
                          obtain ⟨m1, x1, f1, f2, f3⟩ := r.obj b _ hbk
                          rw [hm] at f1; cases f1
                          cases x1 with
                          | cells c el fr =>
                            obtain ⟨g1, g2, g3, g4, g5, g6, g7⟩ := f3
                            by_cases hfit : len + m ≤ cap'
                            · -- in place
                              have hmul : m0.off + o + (len + m) * i.size ≤ c.size := by
                                have := Nat.mul_le_mul_right i.size hfit
                                rw [g5, hk1] at hcc'
                                omega
                              have hadd : (len + m) * i.size = len * i.size + m * i.size := Nat.add_mul _ _ _
                              have hst := run_storeCells_conc (P := P) xs' w m0.blk (m0.off + o + len * i.size) 0 c el fr f2 (l1.all_oneCell hone) (by omega) (fun j h1 h2 => g4 rfl j (by omega) h2)
                              have hrun := run_append_place (P := P) (ts := ts) (ty := ty) (a := ⟨m0.blk, m0.off + o, none⟩) (len := len) (cap := cap') h0 hu hi hzeros (l3 w.drawn) hfit (l4 w.drawn) (by rw [Addr.add_plain]; exact hst)
                              have hmv := r.move (o' := .cells (cs.drop o ++ xs) true ⟨elem, i.size, false⟩) (.cells (setAll c.toList (m0.off + o + len * i.size + 0) xs').toArray el fr) (m' := ⟨m0.blk, m0.off + o, m0.sz, m0.k⟩) r.globs hbk rfl hm rfl ?_
                                (w' := { w with heap := w.heap.setIfInBounds m0.blk (.cells (setAll c.toList (m0.off + o + len * i.size + 0) xs').toArray el fr) }) rfl rfl rfl rfl
                              · refine ⟨_, _, ?_, hmv.1, hmv.2, Nat.le_succ _⟩
                                simp only [Sem.run_bind, hrun, Result.andThen_ok, Sem.run_pure]
                                refine .val ?_
                                have hv := VRel.slice (μ := μ.set n ⟨m0.blk, m0.off + o, m0.sz, m0.k⟩) (b := n) 0 (len + m) U cap' (Mu.set_same _ _ _) (.inr ⟨rfl, hfit, hcc'.2⟩)
                                exact hv
                              · have hle : μ.le (μ.set n ⟨m0.blk, m0.off + o, m0.sz, m0.k⟩) := Mu.le_set (r.bound n (Nat.le_refl _))
                                refine ⟨by simp [g1, length_setAll], by simp [length_setAll]; omega, ?_, ?_, by simp [g5, hk1], by simp [g6, hk3], by simp⟩
                                · intro j v hj
                                  simp only [List.getElem?_toArray]
                                  rw [get_setAll _ _ _ _ (by simp; omega)]
                                  by_cases hjl : j < (cs.drop o).length
                                  · rw [List.getElem?_append_left hjl, List.getElem?_drop] at hj
                                    obtain ⟨v', p1, p2⟩ := g3 (o + j) v hj
                                    simp at hjl
                                    rw [if_neg (by omega)]
                                    exact ⟨v', by rw [← p1, show m0.off + (o + j) = m0.off + o + j by omega]; simp, p2.mono hle⟩
                                  · rw [List.getElem?_append_right (by omega)] at hj
                                    obtain ⟨v', p1, p2⟩ := l1.get hj
                                    simp at hjl
                                    have hjx := (List.getElem?_eq_some_iff.1 hj).1
                                    simp at hjx
                                    rw [if_pos (by rw [l2]; omega)]
                                    refine ⟨v', ?_, p2.mono hle⟩
                                    rw [← p1]; congr 1; simp; omega
                                · intro _ j h1 h2
                                  simp [length_setAll] at h1 h2
                                  exact g4 rfl j (by omega) h2
                            · -- a new array
                              have hrow : rowE h b o (len * i.size) = some (cs.drop o) := by
                                simp only [rowE, hbk]
                                rw [if_pos (by omega)]
                                congr 1
                                rw [List.take_of_length_le]
                                simp; omega
                              obtain ⟨m2, old', p1, p2, p3, p4, p5⟩ := rowE_sound r hrow
                              rw [hm] at p1; cases p1
                              obtain ⟨newCap, c1, hrun⟩ := run_append_grow (P := P) (w := w) (ts := ts) (ty := ty) (base := some ⟨m0.blk, m0.off + o, none⟩) (len := len) (cap := cap') (old := old') (xs' := xs') (m := m) (z := z) h0 hu hi hzeros (l3 w.drawn) (by omega) hb.1 hb.2
                                (fun d => by simp only [Builtin.firstCells]; rw [← p2]; exact run_loadCells old' p4) l4 hzd
                              obtain ⟨q1, q2⟩ := (Rel.of_heap (w := w) (w' := { w with drawn := w.drawn + 1 }) rfl r).row (rest := zerosE z.cells.toList (newCap - (len + m))) (p5.list.append l1) elem i.size false (by simp) (0, 0) (.inr (Nat.le_refl _))
                              have hsub : Heap.sub ((Trie.del h b).set n (.cells (cs.drop o ++ xs) true ⟨elem, i.size, false⟩)) (h.set n (.cells (cs.drop o ++ xs) true ⟨elem, i.size, false⟩)) := by
                                intro j oj hj
                                rw [Trie.get_set] at hj ⊢
                                split at hj
                                · rename_i hjn; rw [if_pos hjn]; exact hj
                                · rename_i hjn
                                  rw [if_neg hjn]
                                  rw [Trie.get_del] at hj
                                  split at hj
                                  · cases hj
                                  · exact hj
                              refine ⟨_, _, ?_, q1.sub hsub, ((Grow.drew μ h w _).trans q2).sub hsub, Nat.le_succ _⟩
                              simp only [Sem.run_bind, hrun, Result.andThen_ok, Sem.run_pure]
                              refine .val (.newSlice rfl _ _ _ (.inr ⟨rfl, c1, ?_⟩))
                              simp only [length_zerosE, hzl, l2, List.length_append, p2]
                              rw [← Nat.add_mul, ← Nat.add_mul]
                              exact Nat.le_of_eq (by congr 1; omega)
                          | _ => exact f3.elim
                        · cases e
                      · cases e
                    · rename_i hU
                      have hcap : cap = cap' := by
                        rcases hcc with ⟨_, h⟩ | ⟨h, _⟩
                        · exact h
                        · exact (hU h).elim
                      subst hcap
                      split at e
                      · -- within a capacity that is known
                        rename_i hfit
                        split at e
                        · rename_i cs ci hbk
                          split at e
                          · rename_i hle
                            cases e
                            have hadd : (len + m) * i.size = len * i.size + m * i.size := Nat.add_mul _ _ _
                            obtain ⟨w', q1, h2, q2, r2, g2⟩ := run_storeCells hm xs xs' h w cs (o + len * i.size) 0 r hbk l1.arr hone (by omega)
                            have hext : ∀ j, (h.set b (.cells (setAll cs (o + len * i.size) xs) true ci)).get j = h2.get j := by
                              intro j; rw [q2 j, Trie.get_set]; rfl
                            have hrun := run_append_place (P := P) (ts := ts) (ty := ty) (a := ⟨m0.blk, m0.off + o, none⟩) (len := len) (cap := cap) h0 hu hi hzeros (l3 w.drawn) hfit (l4 w.drawn) (by rw [Addr.add_plain, Nat.add_assoc]; exact q1)
                            refine ⟨μ, w', ?_, r2.ext hext, g2.ext hext, Nat.le_refl _⟩
                            simp only [Sem.run_bind, hrun, Result.andThen_ok, Sem.run_pure]
                            exact .val (.slice _ _ _ _ hm (hcc.imp id fun h => ⟨h.1, by omega, h.2.2⟩))
                          · cases e
                        · cases e
                      · rename_i hfit
                        split at e
                        · rename_i hlc
                          split at e
                          · rename_i old hrow
                            cases e
                            obtain ⟨m2, old', p1, p2, p3, p4, p5⟩ := rowE_sound r hrow
                            rw [hm] at p1; cases p1
                            obtain ⟨newCap, c1, hrun⟩ := run_append_grow (P := P) (w := w) (ts := ts) (ty := ty) (base := some ⟨m0.blk, m0.off + o, none⟩) (len := len) (cap := cap) (old := old') (xs' := xs') (m := m) (z := z) h0 hu hi hzeros (l3 w.drawn) (by omega) hb.1 hb.2
                              (fun d => by simp only [Builtin.firstCells]; rw [← p2]; exact run_loadCells old' p4) l4 hzd
                            obtain ⟨q1, q2⟩ := (Rel.of_heap (w := w) (w' := { w with drawn := w.drawn + 1 }) rfl r).row (rest := zerosE z.cells.toList (newCap - (len + m))) (p5.list.append l1) elem i.size false (by simp) (0, 0) (.inr (Nat.le_refl _))
                            refine ⟨_, _, ?_, q1, (Grow.drew μ h w _).trans q2, Nat.le_succ _⟩
                            simp only [Sem.run_bind, hrun, Result.andThen_ok, Sem.run_pure]
                            refine .val (.newSlice rfl _ _ _ (.inr ⟨rfl, c1, ?_⟩))
                            simp only [length_zerosE, hzl, l2, List.length_append, p2]
                            rw [← Nat.add_mul, ← Nat.add_mul]
                            exact Nat.le_of_eq (by congr 1; omega)
                          · cases e
                        · cases e
                  · cases e
              · cases e
            · cases e
          · cases e
        · cases e
      · cases e
    · cases e
  · cases e
end Go.Abs
