/- texts of the claim, part 4: AbsE. -/
import Derived.Test.YtkpaklofdkjinaaDoorPv3
import Derived.ProofKit
import Derived.LaidMore
import Derived.Lay
import Derived.Stop.Joined
import Derived.Carry
import Derived.Below
import Derived.Lib.LaidU8
set_option linter.unusedVariables false
set_option linter.unusedSimpArgs false
set_option linter.unusedSectionVars false
/- From a row's premises to the abstract side, and back. -/
namespace Go.Abs
open Go Go.RowKit
/-! Behind the call: what was there is as it was. -/
theorem trodAll_below {H : Type} {enc : TypeId × Value → H} {P : Program} (hl : laidOutB P = true) {W W' : World} (hb : Below W.heap.size W W') : ∀ {ts : List TypeId} {vs : List Value} {ds : List (DataW H)} {ps : List MemPlace},
    (ts.all fun t => P.readableRec t && decide (t < P.types.size)) = true → DataW.TrodAll enc P W 0 (fun _ => true) true ts vs ds ps → (∀ x ∈ ps, x.block < W.heap.size) →
    DataW.TrodAll enc P W' 0 (fun b => decide (b < W.heap.size)) true ts vs ds ps := by
  intro ts
  induction ts with
  | nil =>
    intro vs ds ps _ h _
    cases vs <;> cases ds <;> first | exact h | exact h.elim
  | cons t ts ih =>
    intro vs ds ps ht h hlt
    simp only [List.all_cons, Bool.and_eq_true, decide_eq_true_eq] at ht
    cases vs with
    | nil => exact h.elim
    | cons v vs =>
      cases ds with
      | nil => exact h.elim
      | cons d ds =>
        obtain ⟨p, q, h1, h2, rfl⟩ := h
        exact ⟨p, q, Below.trod hl ht.1.1 ht.1.2 h1 hb (fun x hx => hlt x (List.mem_append_left _ hx)), ih ht.2 h2 (fun x hx => hlt x (List.mem_append_right _ hx)), rfl⟩
theorem post_below {H : Type} {enc : TypeId × Value → H} {P : Program} {f : Func} {s : ChangeSpec} {fresh handsOn : Bool} {W W' : World} {args : Array Value} {ds gs : List (DataW H)} {before : List MemPlace} {tb : TypeId}
    (hl : laidOutB P = true) (hW : DataW.Whole enc P f.params.toList s.vars false W args.toList ds gs before) (hvars : s.vars = [])
    (hread : (f.params.toList.all fun t => P.readableRec t && decide (t < P.types.size)) = true) (hres : f.resultTypes = #[tb]) (htb : P.underlying tb = some .bool)
    (hs : gs = [] → s.fn H (ds ++ gs) = { results := [.lit (.bool true)], args := ds }) (hb : Below W.heap.size W W') :
    s.post enc P f false fresh handsOn false W args (.bool true) W' := by
  have hW' := hW
  obtain ⟨p, q, hA, hV, rfl, hz, hn⟩ := hW
  have hg : gs = [] ∧ q = [] := by
    rw [hvars] at hV
    cases gs with
    | nil => exact ⟨rfl, hV⟩
    | cons g r => exact hV.elim
  obtain ⟨rfl, rfl⟩ := hg
  have e := hs rfl
  refine ⟨ds, [], p ++ [], [], p, [], hW', ?_, ?_, ?_, ?_, fun h => by cases h⟩
  · rw [e, hres]
    exact ChangeShapes.trodAll_mk1 (RowKit.shut_bool htb true)
  · rw [e]
    exact trodAll_below hl hb hread hA (fun x hx => hA.lt x hx)
  · rw [e, hvars]; rfl
  · exact hb.frame _
/-! Ahead of the call. -/
theorem Rel.start {P : Program} {μ : Mu} {h : Heap} {n : Nat} {W : World} (hobj : ∀ b o, h.get b = some o → o.excl = false ∧ ∃ m x, μ b = some m ∧ W.heap[m.blk]? = some x ∧ ORel μ o x m) (bound : ∀ b, n ≤ b → μ b = none)
    (glob : ∀ g, g < P.globals.size → ∃ m, μ g = some m ∧ m.blk = g ∧ m.off = 0) : Rel P μ h n W :=
  ⟨fun b o e => (hobj b o e).2, (fun b b' o o' m m' e1 e2 => by rw [(hobj b o e1).1] at e2; cases e2), bound, glob⟩
theorem Rel.addRO {P : Program} {μ : Mu} {h : Heap} {n : Nat} {W : World} (r : Rel P μ h n W) (ro : ∀ b o, h.get b = some o → o.excl = false) {o : AObj} {x : Obj} {m : Im} (ho : o.excl = false) (hx : W.heap[m.blk]? = some x) (hor : ORel (μ.set n m) o x m) :
    Rel P (μ.set n m) (h.set n o) (n + 1) W ∧ ∀ b o', (h.set n o).get b = some o' → o'.excl = false := by
  have hle : μ.le (μ.set n m) := Mu.le_set (r.bound n (Nat.le_refl _))
  have hro : ∀ b o', (h.set n o).get b = some o' → o'.excl = false := by
    intro b o' e
    rw [Trie.get_set] at e
    split at e
    · cases e; exact ho
    · exact ro b o' e
  refine ⟨Rel.start (fun b o' e => ⟨hro b o' e, ?_⟩) ?_ ?_, hro⟩
  · rw [Trie.get_set] at e
    split at e
    · rename_i hb
      subst hb
      cases e
      exact ⟨m, x, Mu.set_same _ _ _, hx, hor⟩
    · rename_i hb
      obtain ⟨m1, x1, q1, q2, q3⟩ := r.obj b o' e
      exact ⟨m1, x1, by rw [Mu.set_ne _ _ hb]; exact q1, q2, q3.mono hle⟩
  · intro b hb
    rw [Mu.set_ne _ _ (by omega)]
    exact r.bound b (by omega)
  · intro g hg
    obtain ⟨m1, q⟩ := r.glob g hg
    have : g ≠ n := by have := r.globs; omega
    exact ⟨m1, by rw [Mu.set_ne _ _ this]; exact q.1, q.2⟩
theorem calls_of_acall {P : Program} {f : FuncId} {args args' : Array Value} {μ : Mu} {h : Heap} {n : Nat} {W : World} {v : Value} (ro : ∀ b o, h.get b = some o → o.excl = false) (hr : Rel P μ h n W) (ha : ARel μ args args')
    (hv : flat v = true) (c : ACall P f args h n fun r _ _ => r = .ret v) : Calls P f args' W fun e W' => e = .returned v ∧ Below W.heap.size W W' := by
  refine (c μ args' W ha hr).mono ?_
  rintro e w' ⟨μ', h', n', r, he, hr', hg, hn, rfl⟩
  cases he with
  | ret hvv =>
    rw [hvv.flat_eq hv]
    exact ⟨rfl, hg.os, hg.tape, hg.output, hg.size, fun k hk => hg.kept k hk fun b o m hb hex _ => by rw [ro b o hb] at hex; cases hex⟩
/-- The program's variables hold what they hold. -/
def LaidW (W : World) (L : Laid) : Prop := ∀ x ∈ L, ∃ el fr, W.heap[x.1]? = some (.cells (rowOf x.2.1 x.2.2).toArray el fr)
def szOf (W : World) (b : Nat) : Nat := match W.heap[b]? with
  | some (.cells c _ _) => c.size
  | _ => 0
def mu0 (P : Program) (W : World) : Mu := fun b => if b < P.globals.size then some ⟨b, 0, szOf W b, 0⟩ else none
theorem laidHeap_get (c : Nat → CI) : ∀ {L : Laid} {b : Nat} {o : AObj}, (laidHeap c L).get b = some o → ∃ k l, (b, k, l) ∈ L ∧ o = .cells (rowOf k l) false (c b) := by
  intro L
  induction L with
  | nil => intro b o e; cases e
  | cons x L ih =>
    obtain ⟨g, k, l⟩ := x
    intro b o e
    rw [laidHeap, Trie.get_set] at e
    split at e
    · rename_i hb
      subst hb
      cases e
      exact ⟨k, l, List.mem_cons_self .., rfl⟩
    · obtain ⟨k', l', q1, q2⟩ := ih e
      exact ⟨k', l', List.mem_cons_of_mem _ q1, q2⟩
theorem LaidW.rel {P : Program} {W : World} {L : Laid} (hW : LaidW W L) (hL : (L.all fun x => decide (x.1 < P.globals.size)) = true) : ∃ c, Rel P (mu0 P W) (laidHeap c L) P.globals.size W ∧ ∀ b o, (laidHeap c L).get b = some o → o.excl = false := by
  refine ⟨fun b => match W.heap[b]? with | some (.cells _ el _) => ⟨el, 0, true⟩ | _ => default, ?_, ?_⟩
  · refine Rel.start ?_ ?_ ?_
    · intro b o e
      obtain ⟨k, l, hm, rfl⟩ := laidHeap_get _ e
      obtain ⟨el, fr, hb⟩ := hW _ hm
      have hlt := List.all_eq_true.1 hL _ hm
      simp only [decide_eq_true_eq] at hlt
      simp only at hb
      refine ⟨rfl, ⟨b, 0, szOf W b, 0⟩, _, by simp [mu0, hlt], hb, ?_⟩
      simp only [hb, szOf, ORel]
      refine ⟨trivial, by simp, fun i v hi => ⟨v, by simpa using hi, .flat_self (List.all_eq_true.1 (rowOf_flat k l) v (List.mem_of_getElem? hi))⟩, by simp, trivial, trivial, by simp⟩
    · intro b hb
      simp [mu0, Nat.not_lt.2 hb]
    · intro g hg
      exact ⟨⟨g, 0, szOf W g, 0⟩, by simp only [mu0, hg, if_true], rfl, rfl⟩
  · intro b o e
    obtain ⟨k, l, hm, rfl⟩ := laidHeap_get _ e
    rfl
/-! From a reading to cells. -/
theorem heap_of_var {P : Program} {W : World} {n : String} {g : Nat} {cs : Array Value} (hg : P.globalNamed n = some g) (h : W.var? P n = some cs) : ∃ el fr, W.heap[g]? = some (.cells cs el fr) := by
  unfold World.var? at h
  rw [hg] at h
  simp only [Option.bind_some] at h
  split at h
  · rename_i c el fr e
    cases h
    exact ⟨el, fr, e⟩
  · cases h
theorem laid_tab {P : Program} {W : World} {n : String} {g : Nat} {t e : TypeId} {k : IntKind} {zs : List Nat} {m : Nat}
    (hg : P.globalNamed n = some g) (hty : (P.globals[g]?).map (·.type) = some t) (ht : P.underlying t = some (.array m e)) (he : P.underlying e = some (.int k)) (hce : P.cellsOf e = 1) (hct : P.cellsOf t = m)
    (h : Lib.VarReads P W n (Lib.tabData k (zs.map fun (z : Nat) => (z : Int)))) : ∃ el fr, W.heap[g]? = some (.cells (rowOf k zs).toArray el fr) := by
  obtain ⟨g', t', cs, fuel, p, hg', ht', hv, hd⟩ := h
  obtain rfl := Option.some.inj (hg.symm.trans hg')
  obtain rfl := Option.some.inj (hty.symm.trans ht')
  have hcs := Lib.cells_of_tab ht he hce hct hd
  obtain ⟨el, fr, hh⟩ := heap_of_var hg hv
  refine ⟨el, fr, ?_⟩
  rw [hh]
  have : cs = (rowOf k zs).toArray := by
    apply Array.ext'
    rw [hcs]
    simp [rowOf]
  rw [this]
theorem flat_chunks {k : IntKind} (s : Nat) : ∀ (zss : List (List Nat)) (cs : List Value), cs.length = zss.length * s → (∀ zs ∈ zss, zs.length = s) → (∀ i zs, zss[i]? = some zs → (cs.drop (i * s)).take s = rowOf k zs) → cs = rowOf k zss.flatten := by
  intro zss
  induction zss with
  | nil => intro cs hl _ _; have : cs = [] := List.eq_nil_of_length_eq_zero (by simpa using hl); subst this; rfl
  | cons zs zss ih =>
    intro cs hl hs h
    have h0 := h 0 zs rfl
    simp only [Nat.zero_mul, List.drop_zero] at h0
    have h1 := ih (cs.drop s) (by simp only [List.length_drop, hl, List.length_cons, Nat.succ_mul]; omega) (fun z hz => hs z (List.mem_cons_of_mem _ hz)) (fun i z hz => by
      rw [List.drop_drop, Nat.add_comm, ← Nat.succ_mul]
      exact h (i + 1) z (by simpa using hz))
    rw [List.flatten_cons]
    simp only [rowOf, List.map_append] at h0 h1 ⊢
    rw [← h0, ← h1, List.take_append_drop]
theorem laid_structs {P : Program} {W : World} {n : String} {g : Nat} {t e : TypeId} {fs : Array Field} {k : IntKind} {zss : List (List Nat)} {m : Nat}
    (hg : P.globalNamed n = some g) (hty : (P.globals[g]?).map (·.type) = some t) (ht : P.underlying t = some (.array m e)) (he : P.underlying e = some (.struct fs))
    (hf : ∀ (i : Nat) (f : Field), fs[i]? = some f → P.underlying f.type = some (.int k) ∧ f.offset = i ∧ P.cellsOf f.type = 1) (hce : P.cellsOf e = fs.size) (hct : P.cellsOf t = m * fs.size)
    (hm : zss.length = m) (hz : ∀ zs ∈ zss, zs.length = fs.size)
    (h : Lib.VarReads P W n (.agg (zss.map fun zs => .agg (zs.map fun (z : Nat) => .lit (.int k (z : Int)))))) : ∃ el fr, W.heap[g]? = some (.cells (rowOf k zss.flatten).toArray el fr) := by
  obtain ⟨g', t', cs, fuel, p, hg', ht', hv, hd⟩ := h
  obtain rfl := Option.some.inj (hg.symm.trans hg')
  obtain rfl := Option.some.inj (hty.symm.trans ht')
  obtain ⟨el, fr, hh⟩ := heap_of_var hg hv
  refine ⟨el, fr, ?_⟩
  have hlen : cs.toList.length = m * fs.size := by
    cases fuel with
    | zero => simp [DataW.trod] at hd
    | succ fuel =>
      simp only [DataW.trod, ht, hce, hct] at hd
      split at hd
      · rename_i hl
        exact hl
      · cases hd
  have key := flat_chunks (k := k) fs.size zss cs.toList (by rw [hlen, hm]) hz (fun i zs hi => by
    have him : i < m := by rw [← hm]; exact (List.getElem?_eq_some_iff.1 hi).1
    obtain ⟨fuel', d, q, hdi, hel⟩ := Lib.array_elem ht hd i him
    rw [List.getElem?_map, hi] at hdi
    simp only [Option.map_some, Option.some.injEq] at hdi
    subst hdi
    rw [hce] at hel
    have := Lib.ints_of_struct (zs := zs.map fun (z : Nat) => (z : Int)) he hf hce (by simpa [List.map_map, Function.comp_def] using hel)
    rw [this]
    simp [rowOf])
  rw [hh]
  have : cs = (rowOf k zss.flatten).toArray := by
    apply Array.ext'
    rw [key]
  rw [this]
end Go.Abs
/- Stepping through codes by hand: one rule for each kind of operation. -/
namespace Go.Abs
open Go
/-! Frames written out. -/
def evens : List Value → List Value
  | [] => []
  | [a] => [a]
  | a :: _ :: r => a :: evens r
def odds : List Value → List Value
  | [] => []
  | [_] => []
  | _ :: b :: r => b :: odds r
def mkT : Nat → List Value → Trie Value
  | 0, _ => .nil
  | _ + 1, [] => .nil
  | f + 1, a :: r => .node (some a) (mkT f (evens r)) (mkT f (odds r))
theorem evens_odds : ∀ (l : List Value) (i : Nat), (evens l)[i]? = l[2 * i]? ∧ (odds l)[i]? = l[2 * i + 1]?
  | [], i => by simp [evens, odds]
  | [a], i => by
    cases i with
    | zero => simp [evens, odds]
    | succ i => simp [evens, odds]
  | a :: b :: r, i => by
    obtain h := evens_odds r
    cases i with
    | zero => simp [evens, odds]
    | succ i =>
      rw [show 2 * (i + 1) = 2 * i + 1 + 1 by omega]
      simp only [evens, odds, List.getElem?_cons_succ]
      exact h i
theorem length_evens : ∀ l : List Value, (evens l).length ≤ l.length ∧ (odds l).length ≤ l.length
  | [] => by simp [evens, odds]
  | [a] => by simp [evens, odds]
  | a :: b :: r => by have := length_evens r; simp [evens, odds]; omega
theorem get_mkT : ∀ (f : Nat) (l : List Value) (i : Nat), l.length ≤ f → (mkT f l).get i = l[i]? := by
  intro f
  induction f with
  | zero => intro l i hl; have : l = [] := List.eq_nil_of_length_eq_zero (by omega); subst this; simp [mkT, Trie.get]
  | succ f ih =>
    intro l i hl
    cases l with
    | nil => simp [mkT, Trie.get]
    | cons a r =>
      simp only [mkT, Trie.get]
      simp only [List.length_cons] at hl
      have hle := length_evens r
      by_cases hi : i = 0
      · subst hi; simp
      · rw [if_neg hi]
        by_cases h2 : i % 2 = 1
        · rw [if_pos h2, ih _ _ (by omega), (evens_odds r _).1]
          obtain ⟨j, rfl⟩ : ∃ j, i = j + 1 := ⟨i - 1, by omega⟩
          rw [List.getElem?_cons_succ]
          congr 1; omega
        · rw [if_neg h2, ih _ _ (by omega), (evens_odds r _).2]
          obtain ⟨j, rfl⟩ : ∃ j, i = j + 1 := ⟨i - 1, by omega⟩
          rw [List.getElem?_cons_succ]
          congr 1; omega
def frameV (vs : List Value) : AAct := { t := mkT vs.length vs, size := vs.length, defers := [] }
def valsOf (fr : AAct) (k : Nat) : List Value := (List.range k).map fr.get
theorem VRel.of_undef {μ : Mu} {x : Value} (h : VRel μ x undef) : x = undef := by
  unfold undef at *
  cases h with
  | tuple hc _ => congr 1; exact Array.eq_empty_of_size_eq_zero (by simpa using hc)
theorem AWp.norm {P : Program} {Q : APost} {fr : AAct} {h : Heap} {n : Nat} {c : Code} {k : Nat} (hs : fr.size = k) (hd : fr.defers = []) (q : AWp P c Q (frameV (valsOf fr k)) h n) : AWp P c Q fr h n := by
  intro μ a w hf hr
  refine q μ a w (hf.eqv ⟨by simp [frameV, valsOf, hs], hd, fun i => ?_⟩) hr
  simp only [AAct.get, frameV]
  rw [get_mkT _ _ _ (Nat.le_refl _)]
  by_cases hi : i < k
  · simp [valsOf, hi, AAct.get]
  · have h1 := hf.get i
    rw [Array.getD_eq_getD_getElem?, Array.getElem?_eq_none (by rw [hf.size, hs]; omega)] at h1
    have h2 := h1.of_undef
    simp only [AAct.get] at h2
    rw [h2]
    simp [valsOf, hi]
theorem evens_set : ∀ (l : List Value) (j : Nat) (x : Value), (j % 2 = 0 → evens (l.set j x) = (evens l).set (j / 2) x ∧ odds (l.set j x) = odds l) ∧ (j % 2 = 1 → odds (l.set j x) = (odds l).set (j / 2) x ∧ evens (l.set j x) = evens l)
  | [], j, x => by simp [evens, odds]
  | [a], j, x => by
    cases j with
    | zero => simp [evens, odds]
    | succ j =>
      simp only [List.set_cons_succ, List.set_nil, evens, odds]
      refine ⟨fun h => ⟨?_, by simp⟩, fun h => ⟨by simp, by simp⟩⟩
      obtain ⟨k, hk⟩ : ∃ k, (j + 1) / 2 = k + 1 := ⟨(j + 1) / 2 - 1, by omega⟩
      rw [hk]; rfl
  | a :: b :: r, j, x => by
    match j with
    | 0 => simp [evens, odds]
    | 1 => simp [evens, odds]
    | j + 2 =>
      obtain ⟨h1, h2⟩ := evens_set r j x
      simp only [List.set_cons_succ, evens, odds]
      have e : (j + 2) / 2 = j / 2 + 1 := by omega
      rw [e]
      simp only [List.set_cons_succ]
      refine ⟨fun h => ?_, fun h => ?_⟩
      · obtain ⟨q1, q2⟩ := h1 (by omega); exact ⟨by rw [q1], by rw [q2]⟩
      · obtain ⟨q1, q2⟩ := h2 (by omega); exact ⟨by rw [q1], by rw [q2]⟩
theorem mkT_set : ∀ (f : Nat) (l : List Value) (i g : Nat) (x : Value), l.length ≤ f → i < l.length → i < g → Trie.setF (some x) g (mkT f l) i = mkT f (l.set i x) := by
  intro f
  induction f with
  | zero => intro l i g x hl hi; omega
  | succ f ih =>
    intro l i g x hl hi hg
    cases l with
    | nil => simp at hi
    | cons a r =>
      obtain ⟨g, rfl⟩ : ∃ g', g = g' + 1 := ⟨g - 1, by omega⟩
      simp only [List.length_cons] at hl hi
      have hle := length_evens r
      cases i with
      | zero => simp [mkT, Trie.setF]
      | succ j =>
        obtain ⟨h1, h2⟩ := evens_set r j x
        have hlen := evens_odds r
        by_cases hj : j % 2 = 0
        · obtain ⟨q1, q2⟩ := h1 hj
          have hlt : j / 2 < (evens r).length := by
            have := (hlen (j / 2)).1
            rw [show 2 * (j / 2) = j by omega, List.getElem?_eq_getElem (show j < r.length by omega)] at this
            exact (List.getElem?_eq_some_iff.1 this).1
          simp only [mkT, Trie.setF, List.set_cons_succ, q1, q2]
          rw [if_neg (by omega), if_pos (by omega), show (j + 1 - 1) / 2 = j / 2 by simp, ih _ _ _ _ (by omega) hlt (by omega)]
        · obtain ⟨q1, q2⟩ := h2 (by omega)
          have hlt : j / 2 < (odds r).length := by
            have := (hlen (j / 2)).2
            rw [show 2 * (j / 2) + 1 = j by omega, List.getElem?_eq_getElem (show j < r.length by omega)] at this
            exact (List.getElem?_eq_some_iff.1 this).1
          simp only [mkT, Trie.setF, List.set_cons_succ, q1, q2]
          rw [if_neg (by omega), if_neg (by omega), show (j + 1 - 1) / 2 = j / 2 by simp, ih _ _ _ _ (by omega) hlt (by omega)]
def setV (vs : List Value) (d : Option Tmp) (v : Value) : List Value := match d with
  | some d => vs.set d v
  | none => vs
def getV : List Value → Nat → Value
  | [], _ => undef
  | a :: _, 0 => a
  | _ :: r, i + 1 => getV r i
def evalV (vs : List Value) : Operand → Value
  | .tmp t => getV vs t
  | .const v => v
  | .global g => .pointer (some ⟨g, 0, none⟩)
  | .func f => .func (.func f) #[] #[]
theorem getV_eq : ∀ (vs : List Value) (i : Nat), getV vs i = (vs[i]?).getD undef
  | [], i => by simp [getV]
  | a :: r, 0 => by simp [getV]
  | a :: r, i + 1 => by simp [getV, getV_eq r i]
theorem frameV_get (vs : List Value) (i : Nat) : (frameV vs).get i = getV vs i := by
  simp only [AAct.get, frameV, get_mkT _ _ _ (Nat.le_refl _), getV_eq]
theorem frameV_eval (vs : List Value) : (frameV vs).eval = evalV vs := by
  funext x
  cases x with
  | tmp t => exact frameV_get vs t
  | _ => rfl
theorem frameV_put (vs : List Value) (d : Option Tmp) (v : Value) : (frameV vs).put d v = frameV (setV vs d v) := by
  cases d with
  | none => rfl
  | some d =>
    simp only [AAct.put, setV]
    by_cases hd : d < vs.length
    · rw [if_pos (by simpa [frameV] using hd)]
      simp only [frameV, List.length_set]
      congr 1
      exact mkT_set _ _ _ _ _ (Nat.le_refl _) hd (by omega)
    · rw [if_neg (by simpa [frameV] using hd), List.set_eq_of_length_le (Nat.le_of_not_lt hd)]
section
variable {P : Program} {Q : APost} {vs : List Value} {h : Heap} {n : Nat} {ops : Array Oper} {o : Oper} {rest : List Oper}
theorem wantedA_none {fr : AAct} (hg : o.guard = none) : wantedA ops o fr = true := by
  unfold wantedA Region.wanted
  rw [hg]
theorem seqV.nil (q : Q .normal (frameV vs) h n) : seqW P (acall P) ops Q [] (frameV vs) h n := q
/-- A calm operation. -/
theorem seqV.calm (vs' : List Value) {v : Value} (hg : o.guard = none) (hok : okOper P.globals.size o = true) (hv : calmE P o (evalV vs) h = some v) (hd : setV vs o.dst v = vs') (k : seqW P (acall P) ops Q rest (frameV vs') h n) : seqW P (acall P) ops Q (o :: rest) (frameV vs) h n := by
  subst hd
  simp only [seqW, opW, wantedA_none hg, if_true, frameV_eval, frameV_put]
  exact ⟨hok, by rw [hv]; exact k⟩
/-- An operation that acts. -/
theorem seqV.act (vs' : List Value) {v : Value} {h' : Heap} {n' : Nat} (hg : o.guard = none) (hok : okOper P.globals.size o = true) (hc : calmE P o (evalV vs) h = none) (hv : actE P o (evalV vs) h n = some (.val v, h', n')) (hd : setV vs o.dst v = vs') (k : seqW P (acall P) ops Q rest (frameV vs') h' n') :
    seqW P (acall P) ops Q (o :: rest) (frameV vs) h n := by
  subst hd
  simp only [seqW, opW, wantedA_none hg, if_true, frameV_eval]
  exact ⟨hok, by rw [hc, hv]; simp only [resW, frameV_put]; exact k⟩
/-- A call that returns. -/
theorem seqV.call {f : FuncId} {args : List Value} {h' : Heap} {n' : Nat} {R : Value → Heap → Nat → Prop} (hg : o.guard = none) (hok : okOper P.globals.size o = true) (hc : calmE P o (evalV vs) h = none)
    (hv : actE P o (evalV vs) h n = some (.ent f args, h', n')) (c : ACall P f args.toArray h' n' fun r h1 n1 => ∃ v, r = .ret v ∧ R v h1 n1)
    (k : ∀ v h1 n1, R v h1 n1 → seqW P (acall P) ops Q rest (frameV (setV vs o.dst v)) h1 n1) : seqW P (acall P) ops Q (o :: rest) (frameV vs) h n := by
  simp only [seqW, opW, wantedA_none hg, if_true, frameV_eval]
  refine ⟨hok, ?_⟩
  rw [hc, hv]
  refine ACall.mono c ?_
  rintro r h1 n1 _ _ ⟨v, rfl, hr⟩
  exact ⟨h1, Heap.sub_refl _, by simp only [frameV_put]; exact k v h1 n1 hr⟩
/-- A load of a variable that is one cell, of a known row. -/
theorem seqV.load (vs' : List Value) {dst : Option Tmp} {t ty : TypeId} {a : Operand} {pos : String} {after : Array Edge} {b o : Nat} {cs : List Value} {own : Bool} {ci : CI} {v : Value} (ht : isAggE P t = some false) (hi : (P.info? t).isSome = true) (hok : okOperand P.globals.size a = true)
    (ha : evalV vs a = .pointer (some ⟨b, o, none⟩)) (hb : h.get b = some (.cells cs own ci)) (hc : cs[o]? = some v) (hd : setV vs dst v = vs') (k : seqW P (acall P) ops Q rest (frameV vs') h n) : seqW P (acall P) ops Q (⟨dst, .load t a, ty, pos, after, none⟩ :: rest) (frameV vs) h n := by
  refine seqV.calm vs' rfl (by simp [okOper, Op.operands, hok]) (v := v) ?_ hd k
  obtain ⟨i, hi⟩ := Option.isSome_iff_exists.1 hi
  simp only [calmE, ha, loadE, ht, hi, hb, hc]
/-- A field's place. -/
def fieldOff (P : Program) (s : TypeId) (f : Nat) : Option Nat :=
  match P.underlying s with
  | some (.struct fields) => match fields[f]? with
    | some fd => match P.info? fd.type with
      | some i => if i.size = 0 then none else some fd.offset
      | none => none
    | none => none
  | _ => none
theorem fieldAddrE_off {s f b o off : Nat} (hf : fieldOff P s f = some off) : fieldAddrE P s (.pointer (some ⟨b, o, none⟩)) f = some (.pointer (some ⟨b, o + off, none⟩)) := by
  unfold fieldOff at hf
  unfold fieldAddrE
  split at hf
  · rename_i fields hu
    rw [hu]
    simp only
    split at hf
    · rename_i fd hfd
      rw [hfd]
      simp only
      split at hf
      · rename_i i hi
        rw [hi]
        simp only
        split at hf
        · cases hf
        · rename_i hs
          cases hf
          rw [if_neg hs]
      · cases hf
    · cases hf
  · cases hf
theorem seqV.field (vs' : List Value) {dst : Option Tmp} {s ty : TypeId} {x : Operand} {f : Nat} {pos : String} {after : Array Edge} {b o off : Nat} (hf : fieldOff P s f = some off) (hok : okOperand P.globals.size x = true)
    (hx : evalV vs x = .pointer (some ⟨b, o, none⟩)) (hd : setV vs dst (.pointer (some ⟨b, o + off, none⟩)) = vs') (k : seqW P (acall P) ops Q rest (frameV vs') h n) : seqW P (acall P) ops Q (⟨dst, .fieldAddr s x f, ty, pos, after, none⟩ :: rest) (frameV vs) h n := by
  refine seqV.calm vs' rfl (by simp [okOper, Op.operands, hok]) (v := .pointer (some ⟨b, o + off, none⟩)) ?_ hd k
  simp only [calmE, pureE, hx, fieldAddrE_off hf]
/-- A place in a slice. -/
theorem seqV.index (vs' : List Value) {dst : Option Tmp} {t ty : TypeId} {x ix : Operand} {pos : String} {after : Array Edge} {vx vi v : Value} (hok : okOperand P.globals.size x = true) (hok' : okOperand P.globals.size ix = true)
    (hx : evalV vs x = vx) (hi : evalV vs ix = vi) (hv : indexAddrE P t vx vi = some v) (hd : setV vs dst v = vs') (k : seqW P (acall P) ops Q rest (frameV vs') h n) : seqW P (acall P) ops Q (⟨dst, .indexAddr t x ix, ty, pos, after, none⟩ :: rest) (frameV vs) h n := by
  refine seqV.calm vs' rfl (by simp [okOper, Op.operands, hok, hok']) (v := v) ?_ hd k
  simp only [calmE, pureE, hx, hi, hv]
/-- A test. -/
theorem AWp.testV {c : Operand} {x y : Code} {t : Bool} (ho : okOperand P.globals.size c = true) (hc : evalV vs c = .bool t) (hx : t = true → AWp P x Q (frameV vs) h n) (hy : t = false → AWp P y Q (frameV vs) h n) : AWp P (.cond c x y) Q (frameV vs) h n := by
  refine AWp.cond ho (by rw [frameV_eval]; exact hc) ?_
  cases t with
  | true => exact hx rfl
  | false => exact hy rfl
/-- A loop, its frame written out. -/
theorem AWp.loopV {c : Code} (I : Nat → List Value → Heap → Nat → Prop) (d : Nat) (h0 : I d vs h n)
    (round : ∀ d vs h n, I d vs h n → AWp P c (AExit.then (fun fr' h' n' => ∃ vs' d', fr' = frameV vs' ∧ d' < d ∧ I d' vs' h' n') Q) (frameV vs) h n) : AWp P (.loop c) Q (frameV vs) h n := by
  refine AWp.loop (fun d fr h n => ∃ vs, fr = frameV vs ∧ I d vs h n) d ⟨vs, rfl, h0⟩ ?_
  rintro d fr h n ⟨vs, rfl, hi⟩
  refine AWp.mono (round d _ h n hi) ?_
  intro x fr' h' n' _ _ q
  cases x with
  | normal => obtain ⟨vs', d', a, b, c⟩ := q; exact ⟨d', b, vs', a, c⟩
  | _ => exact q
/-- A function's body, from its arguments on. -/
theorem ACall.of_bodyV {f : FuncId} {fn : Func} {c : Code} {args : List Value} {R : AEnd → Heap → Nat → Prop}
    (hf : P.funcs[f]? = some fn) (hb : fn.body = some c) (hvs : vs = args ++ List.replicate (fn.ntmps - args.length) undef) (q : AWp P c (bodyA P fn R) (frameV vs) h n) : ACall P f args.toArray h n R := by
  refine ACall.of_body hf hb ?_
  refine AWp.norm (k := vs.length) (by rw [hvs]; simp [frameOf]) rfl ?_
  have : valsOf (frameOf args fn.ntmps) vs.length = vs := by
    apply List.ext_getElem?
    intro i
    simp only [valsOf, List.getElem?_map]
    by_cases hi : i < vs.length
    · rw [List.getElem?_range hi]
      simp only [Option.map_some, AAct.get, frameOf, get_frameT, Nat.zero_le, true_and, Nat.zero_add, Nat.sub_zero, Trie.get_nil]
      rw [hvs] at hi ⊢
      by_cases ha : i < args.length
      · rw [if_pos ha, List.getElem?_append_left ha, List.getElem?_eq_getElem ha]; rfl
      · simp at hi
        rw [if_neg ha, List.getElem?_append_right (by omega), List.getElem?_replicate, if_pos (by omega)]; rfl
    · rw [List.getElem?_eq_none (by simp; omega), List.getElem?_eq_none (by omega)]; rfl
  rw [this]
  exact q
end
end Go.Abs
/- Stepping by hand: regions of calm operations alone, in their row or in any; guards; loads of structs; stores; calls that change nothing. -/
namespace Go.Abs
open Go
/-- A region of calm operations alone. -/
def calmW (P : Program) (ops : Array Oper) (Q : APost) : List Oper → ANextK
  | [], fr, h, n => Q .normal fr h n
  | o :: rest, fr, h, n => kindOf P o ≠ 0 ∧ if wantedA ops o fr then okOper P.globals.size o = true ∧ match calmE P o fr.eval h with
      | some v => calmW P ops Q rest (fr.put o.dst v) h n
      | none => False
    else calmW P ops Q rest (fr.put o.dst undef) h n
section
variable {P : Program} {Q : APost} {ops : Array Oper}
theorem calmW.seq : ∀ {l : List Oper} {fr : AAct} {h : Heap} {n : Nat}, calmW P ops Q l fr h n → seqW P (acall P) ops Q l fr h n := by
  intro l
  induction l with
  | nil => intro fr h n q; exact q
  | cons o rest ih =>
    intro fr h n q
    obtain ⟨_, q⟩ := q
    simp only [seqW, opW]
    split at q
    · rename_i hw
      rw [if_pos hw]
      obtain ⟨hok, q⟩ := q
      refine ⟨hok, ?_⟩
      split at q
      · rename_i v hv; rw [hv]; exact ih q
      · exact q.elim
    · rename_i hw
      rw [if_neg hw]
      exact ih q
theorem calmW.draw : ∀ {l : List Oper} {k : Nat} {inv : Inv} {fr : AAct} {h : Heap} {n : Nat}, (∀ j o, l[j]? = some o → ops[k + j]? = some o) → calmW P ops Q l fr h n → drawW P (acall P) ops Q (List.range' k l.length) inv fr h n := by
  intro l
  induction l with
  | nil => intro k inv fr h n _ q; exact q
  | cons o rest ih =>
    intro k inv fr h n hl q
    obtain ⟨hk, q⟩ := q
    simp only [List.length_cons, List.range'_succ, drawW]
    rw [show ops[k]? = some o from hl 0 o rfl]
    simp only
    rw [if_neg hk]
    have hl' : ∀ j o, rest[j]? = some o → ops[k + 1 + j]? = some o := fun j o hj => by have := hl (j + 1) o (by simpa using hj); rw [show k + 1 + j = k + (j + 1) by omega]; exact this
    split at q
    · rename_i hw
      rw [if_pos hw]
      obtain ⟨hok, q⟩ := q
      refine ⟨hok, ?_⟩
      split at q
      · rename_i v hv; rw [hv]; exact ih hl' q
      · exact q.elim
    · rename_i hw
      rw [if_neg hw]
      exact ih hl' q
end
section
variable {P : Program} {Q : APost} {vs : List Value} {h : Heap} {n : Nat} {ops : Array Oper} {o : Oper} {rest : List Oper}
theorem seqV.calmG (vs' : List Value) {v : Value} (hw : wantedA ops o (frameV vs) = true) (hok : okOper P.globals.size o = true) (hv : calmE P o (evalV vs) h = some v) (hd : setV vs o.dst v = vs') (k : seqW P (acall P) ops Q rest (frameV vs') h n) : seqW P (acall P) ops Q (o :: rest) (frameV vs) h n := by
  subst hd
  simp only [seqW, opW, hw, if_true, frameV_eval, frameV_put]
  exact ⟨hok, by rw [hv]; exact k⟩
theorem seqV.skip (vs' : List Value) (hw : wantedA ops o (frameV vs) = false) (hd : setV vs o.dst undef = vs') (k : seqW P (acall P) ops Q rest (frameV vs') h n) : seqW P (acall P) ops Q (o :: rest) (frameV vs) h n := by
  subst hd
  simp only [seqW, opW, hw, Bool.false_eq_true, if_false, frameV_put]
  exact k
theorem seqV.callG (vs' : Value → List Value) {f : FuncId} {args : List Value} {h' : Heap} {n' : Nat} {R : Value → Heap → Nat → Prop} (hw : wantedA ops o (frameV vs) = true) (hok : okOper P.globals.size o = true) (hc : calmE P o (evalV vs) h = none)
    (hv : actE P o (evalV vs) h n = some (.ent f args, h', n')) (hd : ∀ v, setV vs o.dst v = vs' v) (c : ACall P f args.toArray h' n' fun r h1 n1 => ∃ v, r = .ret v ∧ R v h1 n1)
    (k : ∀ v h1 n1, R v h1 n1 → seqW P (acall P) ops Q rest (frameV (vs' v)) h1 n1) : seqW P (acall P) ops Q (o :: rest) (frameV vs) h n := by
  simp only [seqW, opW, hw, if_true, frameV_eval]
  refine ⟨hok, ?_⟩
  rw [hc, hv]
  refine ACall.mono c ?_
  rintro r h1 n1 _ _ ⟨v, rfl, hr⟩
  exact ⟨h1, Heap.sub_refl _, by simp only [frameV_put, hd]; exact k v h1 n1 hr⟩
end
end Go.Abs
/- Stepping by hand through a region of calm operations alone, whatever its order. -/
namespace Go.Abs
open Go
section
variable {P : Program} {Q : APost} {vs : List Value} {h : Heap} {n : Nat} {ops : Array Oper} {o : Oper} {rest : List Oper}
theorem cW.nil (q : Q .normal (frameV vs) h n) : calmW P ops Q [] (frameV vs) h n := q
theorem cW.calm (vs' : List Value) {v : Value} (hk : (kindOf P o != 0) = true) (hw : wantedA ops o (frameV vs) = true) (hok : okOper P.globals.size o = true) (hv : calmE P o (evalV vs) h = some v) (hd : setV vs o.dst v = vs') (k : calmW P ops Q rest (frameV vs') h n) : calmW P ops Q (o :: rest) (frameV vs) h n := by
  subst hd
  simp only [calmW, hw, if_true, frameV_eval, frameV_put]
  exact ⟨by simpa using hk, hok, by rw [hv]; exact k⟩
theorem cW.skip (vs' : List Value) (hk : (kindOf P o != 0) = true) (hw : wantedA ops o (frameV vs) = false) (hd : setV vs o.dst undef = vs') (k : calmW P ops Q rest (frameV vs') h n) : calmW P ops Q (o :: rest) (frameV vs) h n := by
  subst hd
  simp only [calmW, hw, Bool.false_eq_true, if_false, frameV_put]
  exact ⟨by simpa using hk, k⟩
theorem cW.load (vs' : List Value) {dst : Option Tmp} {t ty : TypeId} {a : Operand} {pos : String} {after : Array Edge} {guard : Option (Nat × Bool)} {b o : Nat} {cs : List Value} {own : Bool} {ci : CI} {v : Value} (hw : wantedA ops ⟨dst, .load t a, ty, pos, after, guard⟩ (frameV vs) = true)
    (ht : isAggE P t = some false) (hi : (P.info? t).isSome = true) (hok : okOperand P.globals.size a = true) (ha : evalV vs a = .pointer (some ⟨b, o, none⟩)) (hb : h.get b = some (.cells cs own ci)) (hc : cs[o]? = some v) (hd : setV vs dst v = vs')
    (k : calmW P ops Q rest (frameV vs') h n) : calmW P ops Q (⟨dst, .load t a, ty, pos, after, guard⟩ :: rest) (frameV vs) h n := by
  refine cW.calm vs' rfl hw (by simp [okOper, Op.operands, hok]) (v := v) ?_ hd k
  obtain ⟨i, hi⟩ := Option.isSome_iff_exists.1 hi
  simp only [calmE, ha, loadE, ht, hi, hb, hc]
theorem cW.field (vs' : List Value) {dst : Option Tmp} {s ty : TypeId} {x : Operand} {f : Nat} {pos : String} {after : Array Edge} {guard : Option (Nat × Bool)} {b o off : Nat} (hw : wantedA ops ⟨dst, .fieldAddr s x f, ty, pos, after, guard⟩ (frameV vs) = true)
    (hf : fieldOff P s f = some off) (hok : okOperand P.globals.size x = true) (hx : evalV vs x = .pointer (some ⟨b, o, none⟩)) (hd : setV vs dst (.pointer (some ⟨b, o + off, none⟩)) = vs') (k : calmW P ops Q rest (frameV vs') h n) : calmW P ops Q (⟨dst, .fieldAddr s x f, ty, pos, after, guard⟩ :: rest) (frameV vs) h n := by
  refine cW.calm vs' rfl hw (by simp [okOper, Op.operands, hok]) (v := .pointer (some ⟨b, o + off, none⟩)) ?_ hd k
  simp only [calmE, pureE, hx, fieldAddrE_off hf]
theorem cW.index (vs' : List Value) {dst : Option Tmp} {t ty : TypeId} {x ix : Operand} {pos : String} {after : Array Edge} {guard : Option (Nat × Bool)} {vx vi v : Value} (hw : wantedA ops ⟨dst, .indexAddr t x ix, ty, pos, after, guard⟩ (frameV vs) = true) (hok : okOperand P.globals.size x = true) (hok' : okOperand P.globals.size ix = true)
    (hx : evalV vs x = vx) (hi : evalV vs ix = vi) (hv : indexAddrE P t vx vi = some v) (hd : setV vs dst v = vs') (k : calmW P ops Q rest (frameV vs') h n) : calmW P ops Q (⟨dst, .indexAddr t x ix, ty, pos, after, guard⟩ :: rest) (frameV vs) h n := by
  refine cW.calm vs' rfl hw (by simp [okOper, Op.operands, hok, hok']) (v := v) ?_ hd k
  simp only [calmE, pureE, hx, hi, hv]
/-- A store of a value. -/
theorem seqV.store {t : TypeId} {a x : Operand} {dst : Option Tmp} {ty : TypeId} {pos : String} {after : Array Edge} {b o k : Nat} {xs cs : List Value} {ci : CI} {v : Value} (hdst : dst = none) (hi : (P.info? t).map (·.size) = some k) (hok : okOperand P.globals.size a = true) (hok' : okOperand P.globals.size x = true)
    (ha : evalV vs a = .pointer (some ⟨b, o, none⟩)) (hx : evalV vs x = v) (hxs : v.cells.toList = xs) (hb : h.get b = some (.cells cs true ci)) (hl : xs.length = k) (hone : (xs.all fun x => x.oneCell') = true) (hle : o + k ≤ cs.length)
    (q : seqW P (acall P) ops Q rest (frameV vs) (h.set b (.cells (setAll cs o xs) true ci)) n) : seqW P (acall P) ops Q (⟨dst, .store t a x, ty, pos, after, none⟩ :: rest) (frameV vs) h n := by
  subst hdst
  cases h40 : P.info? t with
  | none => rw [h40] at hi; cases hi
  | some inf =>
    rw [h40] at hi
    simp only [Option.map_some, Option.some.injEq] at hi
    have hst : storeE P t (.pointer (some ⟨b, o, none⟩)) v h = some (h.set b (.cells (setAll cs o xs) true ci)) := by
      simp only [storeE, hb, h40, hxs, hi]
      rw [if_pos (by simp [hl, hone, hle])]
    simp only [seqW, opW, wantedA_none, if_true]
    refine ⟨by simp [okOper, Op.operands, hok, hok'], ?_⟩
    have hc : calmE P ⟨none, .store t a x, ty, pos, after, none⟩ (frameV vs).eval h = none := rfl
    have hac : actE P ⟨none, .store t a x, ty, pos, after, none⟩ (frameV vs).eval h n = storeOpE P t (evalV vs a) (evalV vs x) h n := by
      simp only [actE, frameV_eval]
    rw [hc, hac, ha, hx]
    unfold storeOpE
    rw [hst]
    exact q
theorem seqV.norm (vs' : List Value) {l : List Oper} (hd : vs = vs') (k : seqW P (acall P) ops Q l (frameV vs') h n) : seqW P (acall P) ops Q l (frameV vs) h n := hd ▸ k
end
end Go.Abs
/- Stepping with memory that turns: what stays of a heap, what a call leaves, regions in any order. -/
namespace Go.Abs
open Go
/-- What lies in a heap outside some blocks lies in another one. -/
def SubBut (h h' : Heap) (S : List Nat) : Prop := ∀ b o, b ∉ S → h.get b = some o → h'.get b = some o
/-- From a block on there is nothing. -/
def Free (h : Heap) (n : Nat) : Prop := ∀ b, n ≤ b → h.get b = none
theorem SubBut.refl (h : Heap) (S : List Nat) : SubBut h h S := fun _ _ _ e => e
theorem SubBut.of_sub {h h' : Heap} (s : h.sub h') (S : List Nat) : SubBut h h' S := fun b o _ e => s b o e
theorem SubBut.sub {h h' : Heap} (s : SubBut h h' []) : h.sub h' := fun b o e => s b o (by simp) e
theorem SubBut.trans {h h1 h2 : Heap} {S : List Nat} (a : SubBut h h1 S) (b : SubBut h1 h2 S) : SubBut h h2 S := fun x o hx e => b x o hx (a x o hx e)
theorem SubBut.mono {h h' : Heap} {S S' : List Nat} (a : SubBut h h' S) (hs : ∀ b ∈ S, b ∈ S') : SubBut h h' S' := fun x o hx e => a x o (fun hm => hx (hs x hm)) e
/-- A step at a block that was not there at the begin. -/
theorem SubBut.fresh {h h1 h2 : Heap} {S : List Nat} {b : Nat} (a : SubBut h h1 S) (hb : h.get b = none) (c : SubBut h1 h2 [b]) : SubBut h h2 S := fun x o hx e => by
  refine c x o ?_ (a x o hx e)
  intro hm
  rw [List.mem_singleton] at hm
  subst hm
  rw [hb] at e
  cases e
/-- A step at a block of those that may turn. -/
theorem SubBut.at {h h1 h2 : Heap} {S : List Nat} {b : Nat} (a : SubBut h h1 S) (hb : b ∈ S) (c : SubBut h1 h2 [b]) : SubBut h h2 S := fun x o hx e => by
  refine c x o ?_ (a x o hx e)
  intro hm
  rw [List.mem_singleton] at hm
  subst hm
  exact hx hb
theorem SubBut.get1 {h h' : Heap} {b c : Nat} {o : AObj} (s : SubBut h h' [b]) (hne : c ≠ b) (e : h.get c = some o) : h'.get c = some o := s c o (by simpa using hne) e
theorem Free.mono {h : Heap} {n m : Nat} (f : Free h n) (hm : n ≤ m) : Free h m := fun b hb => f b (Nat.le_trans hm hb)
theorem Free.ne {h : Heap} {n b : Nat} {o : AObj} (f : Free h n) (e : h.get b = some o) : b ≠ n := by
  intro he
  subst he
  rw [f _ (Nat.le_refl _)] at e
  cases e
theorem Free.lt {h : Heap} {n b : Nat} {o : AObj} (f : Free h n) (e : h.get b = some o) : b < n := by
  rcases Nat.lt_or_ge b n with q | q
  · exact q
  · rw [f b q] at e; cases e
theorem Free.set {h : Heap} {n : Nat} {o : AObj} (f : Free h n) : Free (h.set n o) (n + 1) := fun b hb => by
  rw [Trie.get_set, if_neg (by omega)]
  exact f b (by omega)
theorem Free.setAt {h : Heap} {n b : Nat} {o o' : AObj} (f : Free h n) (e : h.get b = some o') : Free (h.set b o) n := fun c hc => by
  have := f.lt e
  rw [Trie.get_set, if_neg (by omega)]
  exact f c hc
theorem SubBut.set (h : Heap) (b : Nat) (o : AObj) : SubBut h (h.set b o) [b] := fun c x hc e => by
  rw [Trie.get_set, if_neg (by simpa using hc)]
  exact e
theorem sub_alloc {h : Heap} {n : Nat} {o : AObj} (f : Free h n) : h.sub (h.set n o) := fun b x hb => by
  rw [Trie.get_set, if_neg (f.ne hb)]
  exact hb
theorem ne_of_get {h : Heap} {a b : Nat} {o : AObj} (ha : h.get a = some o) (hb : h.get b = none) : a ≠ b := by
  intro e; subst e; rw [hb] at ha; cases ha
/-- Nothing that reads goes otherwise in a greater heap. -/
theorem rowE_sub {h h' : Heap} (s : h.sub h') {b o k : Nat} {xs : List Value} (e : rowE h b o k = some xs) : rowE h' b o k = some xs := by
  unfold rowE at *
  by_cases hk : k = 0
  · rw [if_pos hk] at *; exact e
  rw [if_neg hk] at *
  split at e
  · rename_i hb; rw [s _ _ hb]; exact e
  · cases e
theorem loadE_sub {P : Program} {h h' : Heap} (s : h.sub h') {t : TypeId} {v x : Value} (e : loadE P t v h = some x) : loadE P t v h' = some x := by
  unfold loadE at *
  split at e
  · split at e
    · rename_i i h1 h2
      simp only [Option.map_eq_some_iff] at e
      obtain ⟨ys, e1, e2⟩ := e
      simp only [rowE_sub s e1, Option.map_some, e2]
    · rename_i i h1 h2
      split at e
      · rename_i hb
        simp only [s _ _ hb]
        exact e
      · cases e
    · cases e
  · cases e
theorem entriesE_sub {h h' : Heap} (s : h.sub h') {x : Value} {es : List MapEntry} (e : entriesE h x = some es) : entriesE h' x = some es := by
  unfold entriesE at *
  split at e
  · exact e
  · split at e
    · rename_i hb; simp only [s _ _ hb]; exact e
    · cases e
  · cases e
theorem lookupE_sub {P : Program} {h h' : Heap} (s : h.sub h') {t : TypeId} {x k v : Value} {ok : Bool} (e : lookupE P t x k ok h = some v) : lookupE P t x k ok h' = some v := by
  unfold lookupE at *
  split at e
  · split at e
    · rename_i es he
      simp only [entriesE_sub s he]
      exact e
    · cases e
  · cases e
theorem sliceE_sub {P : Program} {h h' : Heap} (s : h.sub h') {t : TypeId} {x v : Value} {lo hi mx : Option Value} (e : sliceE P t x lo hi mx h = some v) : sliceE P t x lo hi mx h' = some v := by
  unfold sliceE at *
  split at e
  · exact e
  · exact e
  · split at e
    · split at e
      · cases e
      · rename_i hl
        rw [if_neg hl]
        split at e
        · rename_i hcap
          rw [if_pos hcap]
          split at e
          · exact e
          · split at e
            · rename_i hl2
              rw [if_pos hl2]
              split at e
              · rename_i hb; simp only [s _ _ hb]; exact e
              · cases e
            · cases e
          · cases e
        · rename_i hcap
          rw [if_neg hcap]
          exact e
    · cases e
  · exact e
  · cases e
theorem strOfE_sub {P : Program} {h h' : Heap} (s : h.sub h') {a b : TypeId} {x v : Value} (e : strOfE P a b x h = some v) : strOfE P a b x h' = some v := by
  unfold strOfE at *
  split at e
  · split at e
    · split at e
      · rename_i xs hx
        simp only [rowE_sub s hx]
        exact e
      · cases e
    · cases e
  · exact e
  · cases e
theorem mapLenE_sub {P : Program} {h h' : Heap} (s : h.sub h') {ts : List TypeId} {xs : List Value} {v : Value} (e : mapLenE P ts xs h = some v) : mapLenE P ts xs h' = some v := by
  unfold mapLenE at *
  split at e
  · split at e
    · rename_i hu he
      simp only [hu, entriesE_sub s he]
      exact e
    · cases e
  · cases e
theorem calmE_sub {P : Program} {h h' : Heap} (s : h.sub h') {o : Oper} {ρ : Operand → Value} {v : Value} (e : calmE P o ρ h = some v) : calmE P o ρ h' = some v := by
  obtain ⟨dst, op, ty, pos, after, guard⟩ := o
  cases op
  case load t a => exact loadE_sub s e
  case slice t x lo hi mx => exact sliceE_sub s e
  case lookup t x k ok => exact lookupE_sub s e
  case convert a d x =>
    have e' : (match convE P a d (ρ x) with | some v => some v | none => strOfE P a d (ρ x) h) = some v := e
    show (match convE P a d (ρ x) with | some v => some v | none => strOfE P a d (ρ x) h') = some v
    cases hc : convE P a d (ρ x) with
    | some u => rw [hc] at e'; exact e'
    | none => rw [hc] at e'; exact strOfE_sub s e'
  case call c =>
    obtain ⟨callee, args, ats⟩ := c
    cases callee with
    | builtin b =>
      simp only [calmE] at e ⊢
      split at e
      · rename_i u hc; exact e
      · rename_i hc
        split at e
        · exact mapLenE_sub s e
        · cases e
    | value f => exact e
    | invoke r m => exact e
  all_goals exact e
/-! Regions whose order is drawn, by a plan; what was read stays so. -/
def DW (P : Program) (ops : Array Oper) (Q : APost) (S : List Nat) (plan : List Nat) (vs : List Value) (h : Heap) (n : Nat) : Prop :=
  ∀ inv : Inv, (∀ x ∈ inv, ∀ h', SubBut h h' S → x.2 h') → drawW P (acall P) ops Q plan inv (frameV vs) h n
section
variable {P : Program} {Q : APost} {vs : List Value} {h : Heap} {n : Nat} {ops : Array Oper} {S : List Nat} {i : Nat} {rest : List Nat} {o : Oper}
theorem AWp.drawV (ok : POk P) {id : Nat} (S : List Nat) (plan : List Nat) (hsel : Region.noSelect ops = true) (hp : planOk P ops plan (Array.replicate ops.size false) = true) (hlen : plan.length = ops.size) (hpan : PanExt [] Q)
    (q : DW P ops Q S plan vs h n) : AWp P (.region id ops true) Q (frameV vs) h n :=
  AWp.draw_region ok plan hsel hp hlen (S := []) (avoids_nil ops) hpan (q [] (by simp))
theorem dq.nil (q : Q .normal (frameV vs) h n) : DW P ops Q S [] vs h n := fun _ _ => q
theorem dq.pure (vs' : List Value) {v : Value} (ho : ops[i]? = some o) (hk : kindOf P o = 1) (hw : wantedA ops o (frameV vs) = true) (hok : okOper P.globals.size o = true) (hv : calmE P o (evalV vs) h = some v) (hd : setV vs o.dst v = vs')
    (k : DW P ops Q S rest vs' h n) : DW P ops Q S (i :: rest) vs h n := by
  intro inv hinv
  subst hd
  simp only [drawW, ho, hk, if_neg (show ¬ (1 : Nat) = 0 by decide), hw, if_true, frameV_eval, frameV_put]
  exact ⟨hok, by rw [hv]; exact k inv hinv⟩
theorem dq.read (vs' : List Value) {v : Value} (ho : ops[i]? = some o) (hk : (kindOf P o != 0) = true) (hw : wantedA ops o (frameV vs) = true) (hok : okOper P.globals.size o = true) (hv : ∀ h', SubBut h h' S → calmE P o (evalV vs) h' = some v) (hd : setV vs o.dst v = vs')
    (k : DW P ops Q S rest vs' h n) : DW P ops Q S (i :: rest) vs h n := by
  intro inv hinv
  subst hd
  have hk' : kindOf P o ≠ 0 := by simpa using hk
  simp only [drawW, ho, if_neg hk', hw, if_true, frameV_eval, frameV_put]
  refine ⟨hok, ?_⟩
  rw [hv h (.refl h S)]
  simp only
  split
  · exact k inv hinv
  · refine k _ ?_
    intro x hx h' hs
    rcases List.mem_cons.1 hx with rfl | hx
    · exact hv h' hs
    · exact hinv x hx h' hs
theorem dq.skip (vs' : List Value) (ho : ops[i]? = some o) (hw : wantedA ops o (frameV vs) = false) (hd : setV vs o.dst undef = vs') (k : DW P ops Q S rest vs' h n) : DW P ops Q S (i :: rest) vs h n := by
  intro inv hinv
  subst hd
  simp only [drawW, ho]
  split
  · simp only [opW, hw, Bool.false_eq_true, if_false, frameV_put]
    refine ⟨fun x hx => hinv x (List.mem_filter.1 hx).1 h (.refl h S), k _ fun x hx h' hs => hinv x (List.mem_filter.1 hx).1 h' hs⟩
  · simp only [hw, Bool.false_eq_true, if_false, frameV_put]
    exact k inv hinv
theorem dq.act (vs' : List Value) {v : Value} {h' : Heap} {n' : Nat} (ho : ops[i]? = some o) (hk : kindOf P o = 0) (hw : wantedA ops o (frameV vs) = true) (hok : okOper P.globals.size o = true) (hc : calmE P o (evalV vs) h = none)
    (hv : actE P o (evalV vs) h n = some (.val v, h', n')) (hs : SubBut h h' S) (hd : setV vs o.dst v = vs') (k : DW P ops Q S rest vs' h' n') : DW P ops Q S (i :: rest) vs h n := by
  intro inv hinv
  subst hd
  simp only [drawW, ho, hk, if_true, opW, hw, frameV_eval]
  refine ⟨hok, ?_⟩
  rw [hc, hv]
  simp only [resW, frameV_put]
  exact ⟨fun x hx => hinv x (List.mem_filter.1 hx).1 h' hs, k _ fun x hx h2 hs2 => hinv x (List.mem_filter.1 hx).1 h2 (hs.trans hs2)⟩
theorem dq.callG (vs' : Value → List Value) {f : FuncId} {args : List Value} {R : Value → Heap → Nat → Prop} (ho : ops[i]? = some o) (hk : kindOf P o = 0) (hw : wantedA ops o (frameV vs) = true) (hok : okOper P.globals.size o = true) (hc : calmE P o (evalV vs) h = none)
    (hv : actE P o (evalV vs) h n = some (.ent f args, h, n)) (hd : ∀ v, setV vs o.dst v = vs' v) (c : ACall P f args.toArray h n fun r h1 n1 => ∃ v, r = .ret v ∧ SubBut h h1 S ∧ R v h1 n1)
    (k : ∀ v h1 n1, R v h1 n1 → DW P ops Q S rest (vs' v) h1 n1) : DW P ops Q S (i :: rest) vs h n := by
  intro inv hinv
  simp only [drawW, ho, hk, if_true, opW, hw, frameV_eval]
  refine ⟨hok, ?_⟩
  rw [hc, hv]
  simp only [resW]
  refine ACall.mono c ?_
  rintro r h1 n1 _ _ ⟨v, rfl, hs, hr⟩
  refine ⟨h1, Heap.sub_refl _, ?_⟩
  simp only [frameV_put, hd]
  exact ⟨fun x hx => hinv x (List.mem_filter.1 hx).1 h1 hs, k v h1 n1 hr _ fun x hx h2 hs2 => hinv x (List.mem_filter.1 hx).1 h2 (hs.trans hs2)⟩
end
theorem ACall.free {P : Program} {f : FuncId} {args : Array Value} {h : Heap} {n : Nat} {Q : AEnd → Heap → Nat → Prop} (q : Free h n → ACall P f args h n Q) : ACall P f args h n Q :=
  fun μ a w ha hr => q (fun _ hb => hr.below hb) μ a w ha hr
/-! What a call leaves. -/
/-- It only tells. -/
def Tells (P : Program) (f : FuncId) (args : List Value) (h : Heap) (n : Nat) (v : Value) : Prop :=
  ACall P f args.toArray h n fun r h' n' => r = .ret v ∧ h' = h ∧ n ≤ n'
/-- It makes; what was there stays, but for some blocks. -/
def Makes (P : Program) (f : FuncId) (args : List Value) (h : Heap) (n : Nat) (S : List Nat) (R : Value → Heap → Nat → Prop) : Prop :=
  ACall P f args.toArray h n fun r h' n' => ∃ v, r = .ret v ∧ SubBut h h' S ∧ n ≤ n' ∧ R v h' n'
section
variable {P : Program} {f : FuncId} {args : List Value} {h : Heap} {n : Nat} {S : List Nat} {R R' : Value → Heap → Nat → Prop} {v : Value}
theorem Makes.mono (c : Makes P f args h n S R) (hr : ∀ v h' n', SubBut h h' S → n ≤ n' → Free h' n' → R v h' n' → R' v h' n') : Makes P f args h n S R' :=
  ACall.mono c fun _ h' _ _ hf ⟨v, e, hs, hn, q⟩ => ⟨h', Heap.sub_refl _, v, e, hs, hn, hr v h' _ hs hn hf q⟩
theorem Makes.tells (c : Makes P f args h n [] fun u _ _ => u = v) : Tells P f args h n v :=
  ACall.mono c fun _ _ _ _ _ ⟨_, e, hs, hn, q⟩ => ⟨h, hs.sub, by rw [e, q], rfl, hn⟩
theorem Tells.makes (c : Tells P f args h n v) : Makes P f args h n S fun u h' _ => u = v ∧ h' = h :=
  ACall.mono c fun _ h' _ _ _ ⟨e, e2, hn⟩ => ⟨h', Heap.sub_refl _, v, e, e2 ▸ SubBut.refl h S, hn, rfl, e2⟩
theorem Makes.free (q : Free h n → Makes P f args h n S R) : Makes P f args h n S R := ACall.free q
theorem Tells.free (q : Free h n → Tells P f args h n v) : Tells P f args h n v := ACall.free q
theorem Makes.old (c : ACall P f args.toArray h n fun r h' n' => r = .ret v ∧ h' = h ∧ n ≤ n') : Tells P f args h n v := c
end
end Go.Abs
/- Stepping with memory that turns: operations that act; slices as rows of elements. -/
namespace Go.Abs
open Go
/-- An operation that acts: what it tells, and what is then. -/
def Does (P : Program) (o : Oper) (ρ : Operand → Value) (h : Heap) (n : Nat) (S : List Nat) (R : Value → Heap → Nat → Prop) : Prop :=
  calmE P o ρ h = none ∧ ∃ x v h' n', actE P o ρ h n = some (x, h', n') ∧ (x = .val v ∨ (x = .skip ∧ v = undef)) ∧ SubBut h h' S ∧ n ≤ n' ∧ Free h' n' ∧ R v h' n'
section
variable {P : Program} {Q : APost} {vs : List Value} {h : Heap} {n : Nat} {ops : Array Oper} {S S' : List Nat} {i : Nat} {rest : List Oper} {plan : List Nat} {o : Oper} {R : Value → Heap → Nat → Prop}
theorem sq.does (vs' : Value → List Value) (hw : wantedA ops o (frameV vs) = true) (hok : okOper P.globals.size o = true) (d : Does P o (evalV vs) h n S R) (hd : ∀ v, setV vs o.dst v = vs' v)
    (k : ∀ v h2 n2, R v h2 n2 → SubBut h h2 S → n ≤ n2 → Free h2 n2 → seqW P (acall P) ops Q rest (frameV (vs' v)) h2 n2) : seqW P (acall P) ops Q (o :: rest) (frameV vs) h n := by
  obtain ⟨hc, x, v, h', n', hv, hx, hs, hn, hf, hr⟩ := d
  simp only [seqW, opW, hw, if_true, frameV_eval]
  refine ⟨hok, ?_⟩
  rw [hc, hv]
  have := k v h' n' hr hs hn hf
  rw [← hd] at this
  rcases hx with rfl | ⟨rfl, rfl⟩
  · simp only [resW, frameV_put]; exact this
  · simp only [resW, frameV_put]; exact this
theorem dq.does (vs' : Value → List Value) (ho : ops[i]? = some o) (hk : kindOf P o = 0) (hw : wantedA ops o (frameV vs) = true) (hok : okOper P.globals.size o = true) (d : Does P o (evalV vs) h n S' R) (hS : ∀ b ∈ S', b ∈ S) (hd : ∀ v, setV vs o.dst v = vs' v)
    (k : ∀ v h2 n2, R v h2 n2 → SubBut h h2 S' → n ≤ n2 → Free h2 n2 → DW P ops Q S plan (vs' v) h2 n2) : DW P ops Q S (i :: plan) vs h n := by
  obtain ⟨hc, x, v, h', n', hv, hx, hs, hn, hf, hr⟩ := d
  have k := k v h' n' hr hs hn hf
  rw [← hd] at k
  intro inv hinv
  simp only [drawW, ho, hk, if_true, opW, hw, frameV_eval]
  refine ⟨hok, ?_⟩
  rw [hc, hv]
  have hs' := hs.mono hS
  have k' := k (inv.filter fun x => !dep ops i x.1) fun x hx h2 hs2 => hinv x (List.mem_filter.1 hx).1 h2 (hs'.trans hs2)
  have hq : ∀ x ∈ inv.filter (fun x => !dep ops i x.1), x.2 h' := fun x hx => hinv x (List.mem_filter.1 hx).1 h' hs'
  rcases hx with rfl | ⟨rfl, rfl⟩
  · simp only [resW, frameV_put]; exact ⟨hq, k'⟩
  · simp only [resW, frameV_put]; exact ⟨hq, k'⟩
/-- A block is made. -/
theorem Does.new {ρ : Operand → Value} {v : Value} {ob : AObj} (hf : Free h n) (hc : calmE P o ρ h = none) (hv : actE P o ρ h n = some (.val v, h.set n ob, n + 1)) : Does P o ρ h n [] fun u h2 _ => u = v ∧ h2.get n = some ob :=
  ⟨hc, _, v, _, _, hv, .inl rfl, .of_sub (sub_alloc hf) _, Nat.le_succ n, hf.set, rfl, Trie.get_set_same _ _ _⟩
/-- A value is stored. -/
theorem Does.store {ρ : Operand → Value} {t : TypeId} {a x : Operand} {dst : Option Tmp} {ty : TypeId} {pos : String} {after : Array Edge} {guard : Option (Nat × Bool)} {b p k : Nat} {xs cs cs' : List Value} {ci : CI} {v : Value} (hf : Free h n) (hi : (P.info? t).map (·.size) = some k)
    (ha : ρ a = .pointer (some ⟨b, p, none⟩)) (hx : ρ x = v) (hxs : v.cells.toList = xs) (hb : h.get b = some (.cells cs true ci)) (hl : xs.length = k) (hone : (xs.all fun x => x.oneCell') = true) (hle : p + k ≤ cs.length) (hcs : setAll cs p xs = cs') :
    Does P ⟨dst, .store t a x, ty, pos, after, guard⟩ ρ h n [b] fun u h2 _ => u = undef ∧ h2.get b = some (.cells cs' true ci) := by
  refine ⟨rfl, .skip, undef, h.set b (.cells cs' true ci), n, ?_, .inr ⟨rfl, rfl⟩, .set _ _ _, Nat.le_refl _, hf.setAt hb, rfl, Trie.get_set_same _ _ _⟩
  cases h40 : P.info? t with
  | none => rw [h40] at hi; cases hi
  | some inf =>
    rw [h40] at hi
    simp only [Option.map_some, Option.some.injEq] at hi
    have hst : storeE P t (.pointer (some ⟨b, p, none⟩)) v h = some (h.set b (.cells cs' true ci)) := by
      simp only [storeE, hb, h40, hxs, hi]
      rw [if_pos (by simp [hl, hone, hle]), hcs]
    have hac : actE P ⟨dst, .store t a x, ty, pos, after, guard⟩ ρ h n = storeOpE P t (ρ a) (ρ x) h n := rfl
    rw [hac, ha, hx]
    unfold storeOpE
    rw [hst]
/-- A string is gone through. -/
theorem Does.range {ρ : Operand → Value} {t : TypeId} {x : Operand} {dst : Option Tmp} {ty : TypeId} {pos : String} {after : Array Edge} {guard : Option (Nat × Bool)} {s : ByteArray} (hf : Free h n) (hu : P.underlying t = some .string) (hx : ρ x = .string s) :
    Does P ⟨dst, .range t x, ty, pos, after, guard⟩ ρ h n [] fun u h2 _ => u = .pointer (some ⟨n, 0, none⟩) ∧ h2.get n = some (.siter s 0) :=
  Does.new hf rfl (by
    show rangeE P t (ρ x) h n = _
    rw [hx]; simp only [rangeE, hu])
theorem Does.nextYes {ρ : Operand → Value} {x : Operand} {dst : Option Tmp} {ty : TypeId} {pos : String} {after : Array Edge} {guard : Option (Nat × Bool)} {s : ByteArray} {b p : Nat} (hf : Free h n) (hx : ρ x = .pointer (some ⟨b, 0, none⟩)) (hb : h.get b = some (.siter s p)) (hp : p < s.data.toList.length) :
    Does P ⟨dst, .next x true, ty, pos, after, guard⟩ ρ h n [b] fun u h2 _ => u = .tuple #[.bool true, .int .i64 p, .int .i32 (Utf8.decode s p).1] ∧ h2.get b = some (.siter s (p + (Utf8.decode s p).2)) := by
  refine ⟨rfl, _, _, h.set b (.siter s (p + (Utf8.decode s p).2)), n, ?_, .inl rfl, .set _ _ _, Nat.le_refl _, hf.setAt hb, rfl, Trie.get_set_same _ _ _⟩
  show nextE (ρ x) true h n = _
  rw [hx]
  simp only [nextE, hb, nextStrE, hp, if_true]
theorem Does.nextNo {ρ : Operand → Value} {x : Operand} {dst : Option Tmp} {ty : TypeId} {pos : String} {after : Array Edge} {guard : Option (Nat × Bool)} {s : ByteArray} {b p : Nat} (hf : Free h n) (hx : ρ x = .pointer (some ⟨b, 0, none⟩)) (hb : h.get b = some (.siter s p)) (hp : ¬ p < s.data.toList.length) :
    Does P ⟨dst, .next x true, ty, pos, after, guard⟩ ρ h n [] fun u _ _ => u = .tuple #[.bool false] := by
  refine ⟨rfl, _, _, h, n, ?_, .inl rfl, .refl _ _, Nat.le_refl _, hf, rfl⟩
  show nextE (ρ x) true h n = _
  rw [hx]
  simp only [nextE, hb, nextStrE, hp, if_false]
theorem calleeE_value {f : FuncId} {first cap : Array Value} {xs : List Value} (hf : ((P.funcs[f]?).bind (·.body)).isSome = true) : calleeE P (.func (.func f) first cap) xs = some (f, first.toList ++ xs ++ cap.toList) := by
  obtain ⟨fn, hfn, hb⟩ : ∃ fn, P.funcs[f]? = some fn ∧ fn.body.isSome = true := by
    cases hx : P.funcs[f]? with
    | none => rw [hx] at hf; cases hf
    | some fn => rw [hx] at hf; exact ⟨fn, rfl, by simpa using hf⟩
  simp only [calleeE, hfn, hb, if_true]
/-- What is called: a function, or a value of one. -/
def CallsF (P : Program) (o : Oper) (ρ : Operand → Value) (f : FuncId) (xs : List Value) : Prop :=
  okOper P.globals.size o = true ∧ (∀ h, calmE P o ρ h = none) ∧ ∀ h n, actE P o ρ h n = some (.ent f xs, h, n)
theorem CallsF.val {ρ : Operand → Value} {dst : Option Tmp} {fo : Operand} {f : FuncId} {first cap : Array Value} {args : Array Operand} {ts : Array TypeId} {ty : TypeId} {pos : String} {after : Array Edge} {guard : Option (Nat × Bool)} {xs : List Value}
    (hok : okOperand P.globals.size fo = true) (hok' : args.toList.all (okOperand P.globals.size) = true)
    (hf : ((P.funcs[f]?).bind (·.body)).isSome = true) (hfo : ρ fo = .func (.func f) first cap) (ha : (first.toList ++ args.toList.map ρ) ++ cap.toList = xs) :
    CallsF P ⟨dst, .call { callee := .value fo, args := args, argTypes := ts }, ty, pos, after, guard⟩ ρ f xs := by
  refine ⟨?_, fun _ => rfl, fun h n => ?_⟩
  · unfold okOper
    simp only [Op.operands, Call.operands]
    simp [hok] at hok' ⊢
    exact hok'
  · show (match calleeE P (ρ fo) (args.toList.map ρ) with | some (k, zs) => some (ARes.ent k zs, h, n) | none => externE P (ρ fo) (args.toList.map ρ) h n) = _
    rw [hfo, calleeE_value hf, ha]
theorem CallsF.fn {ρ : Operand → Value} {dst : Option Tmp} {f : FuncId} {args : Array Operand} {ts : Array TypeId} {ty : TypeId} {pos : String} {after : Array Edge} {guard : Option (Nat × Bool)} {xs : List Value}
    (hok' : args.toList.all (okOperand P.globals.size) = true) (hf : ((P.funcs[f]?).bind (·.body)).isSome = true) (hfo : ρ (.func f) = .func (.func f) #[] #[]) (ha : args.toList.map ρ = xs) :
    CallsF P ⟨dst, .call { callee := .value (.func f), args := args, argTypes := ts }, ty, pos, after, guard⟩ ρ f xs :=
  CallsF.val rfl hok' hf hfo (by rw [ha]; simp)
theorem sq.call (vs' : Value → List Value) {f : FuncId} {xs : List Value} (hw : wantedA ops o (frameV vs) = true) (hc : CallsF P o (evalV vs) f xs) (c : Makes P f xs h n S R) (hd : ∀ v, setV vs o.dst v = vs' v)
    (k : ∀ v h2 n2, R v h2 n2 → SubBut h h2 S → n ≤ n2 → Free h2 n2 → seqW P (acall P) ops Q rest (frameV (vs' v)) h2 n2) : seqW P (acall P) ops Q (o :: rest) (frameV vs) h n := by
  obtain ⟨hok, hc1, hc2⟩ := hc
  simp only [seqW, opW, hw, if_true, frameV_eval]
  refine ⟨hok, ?_⟩
  rw [hc1, hc2]
  refine ACall.mono c ?_
  rintro r h1 n1 _ hfr ⟨v, rfl, hs, hn, hr⟩
  exact ⟨h1, Heap.sub_refl _, by simp only [frameV_put, hd]; exact k v h1 n1 hr hs hn hfr⟩
theorem dq.call (vs' : Value → List Value) {f : FuncId} {xs : List Value} (ho : ops[i]? = some o) (hk : kindOf P o = 0) (hw : wantedA ops o (frameV vs) = true) (hc : CallsF P o (evalV vs) f xs) (c : Makes P f xs h n S' R) (hS : ∀ b ∈ S', b ∈ S) (hd : ∀ v, setV vs o.dst v = vs' v)
    (k : ∀ v h2 n2, R v h2 n2 → SubBut h h2 S' → n ≤ n2 → Free h2 n2 → DW P ops Q S plan (vs' v) h2 n2) : DW P ops Q S (i :: plan) vs h n := by
  obtain ⟨hok, hc1, hc2⟩ := hc
  refine dq.callG (R := fun v h2 n2 => R v h2 n2 ∧ SubBut h h2 S' ∧ n ≤ n2 ∧ Free h2 n2) vs' ho hk hw hok (hc1 h) (hc2 h n) hd ?_ (fun v h1 n1 q => k v h1 n1 q.1 q.2.1 q.2.2.1 q.2.2.2)
  refine ACall.mono c ?_
  rintro r h1 n1 _ hfr ⟨v, rfl, hs, hn, hr⟩
  exact ⟨h1, Heap.sub_refl _, v, rfl, hs.mono hS, hr, hs, hn, hfr⟩
theorem sq.tells (vs' : List Value) {f : FuncId} {xs : List Value} {v : Value} (hw : wantedA ops o (frameV vs) = true) (hc : CallsF P o (evalV vs) f xs) (c : Free h n → Tells P f xs h n v) (hf : Free h n) (hd : setV vs o.dst v = vs')
    (k : ∀ n2, n ≤ n2 → Free h n2 → seqW P (acall P) ops Q rest (frameV vs') h n2) : seqW P (acall P) ops Q (o :: rest) (frameV vs) h n := by
  subst hd
  refine sq.call _ hw hc (Tells.makes (S := []) (c hf)) (fun _ => rfl) ?_
  rintro u h2 n2 ⟨rfl, rfl⟩ _ hn hf2
  exact k n2 hn hf2
theorem dq.tells (vs' : List Value) {f : FuncId} {xs : List Value} {v : Value} (ho : ops[i]? = some o) (hk : kindOf P o = 0) (hw : wantedA ops o (frameV vs) = true) (hc : CallsF P o (evalV vs) f xs) (c : Free h n → Tells P f xs h n v) (hf : Free h n) (hd : setV vs o.dst v = vs')
    (k : ∀ n2, n ≤ n2 → Free h n2 → DW P ops Q S plan vs' h n2) : DW P ops Q S (i :: plan) vs h n := by
  subst hd
  refine dq.call _ ho hk hw hc (Tells.makes (S := []) (c hf)) (fun b hb => by simp at hb) (fun _ => rfl) ?_
  rintro u h2 n2 ⟨rfl, rfl⟩ _ hn hf2
  exact k n2 hn hf2
theorem sq.calm (vs' : List Value) {v : Value} (hw : wantedA ops o (frameV vs) = true) (hok : okOper P.globals.size o = true) (hv : calmE P o (evalV vs) h = some v) (hd : setV vs o.dst v = vs') (k : seqW P (acall P) ops Q rest (frameV vs') h n) : seqW P (acall P) ops Q (o :: rest) (frameV vs) h n :=
  seqV.calmG vs' hw hok hv hd k
/-- What reads, where nothing that is read turns. -/
theorem dq.get (vs' : List Value) {v : Value} (ho : ops[i]? = some o) (hk : (kindOf P o != 0) = true) (hw : wantedA ops o (frameV vs) = true) (hok : okOper P.globals.size o = true) (hv : calmE P o (evalV vs) h = some v) (hd : setV vs o.dst v = vs')
    (k : DW P ops Q [] plan vs' h n) : DW P ops Q [] (i :: plan) vs h n :=
  dq.read vs' ho hk hw hok (fun _ hs => calmE_sub hs.sub hv) hd k
theorem Does.alloc {ρ : Operand → Value} {dst : Option Tmp} {t ty : TypeId} {pos : String} {after : Array Edge} {guard : Option (Nat × Bool)} {z : Value} {cs : List Value} (hf : Free h n) (hz : zeroOf P t = some z) (hcs : z.cells.toList = cs) :
    Does P ⟨dst, .alloc t, ty, pos, after, guard⟩ ρ h n [] fun u h2 _ => u = .pointer (some ⟨n, 0, none⟩) ∧ h2.get n = some (.cells cs true ⟨t, 0, true⟩) :=
  Does.new hf rfl (by
    show allocE P t h n = _
    simp only [allocE, hz, hcs])
theorem Does.box {ρ : Operand → Value} {dst : Option Tmp} {t ty : TypeId} {x : Operand} {pos : String} {after : Array Edge} {guard : Option (Nat × Bool)} {z : Value} {cs : List Value} (hf : Free h n) (hz : ρ x = z) (hcs : z.cells.toList = cs) :
    Does P ⟨dst, .box t x, ty, pos, after, guard⟩ ρ h n [] fun u h2 _ => u = .pointer (some ⟨n, 0, none⟩) ∧ h2.get n = some (.cells cs true ⟨t, 0, true⟩) :=
  Does.new hf rfl (by
    show some (boxE t (ρ x) h n) = _
    simp only [boxE, hz, hcs])
theorem Does.build {ρ : Operand → Value} {dst : Option Tmp} {t e ty : TypeId} {len : Nat} {ps : Array (Nat × Operand)} {pos : String} {after : Array Edge} {guard : Option (Nat × Bool)} {cs : List Value} (hf : Free h n) (hb : ∀ h n, buildSliceE P t len (ps.toList.map fun p => (p.1, ρ p.2)) h n = some (.val (.slice (some ⟨n, 0, none⟩) len len), h.set n (.cells cs true ⟨e, 0, true⟩), n + 1)) :
    Does P ⟨dst, .buildSlice t len ps, ty, pos, after, guard⟩ ρ h n [] fun u h2 _ => u = .slice (some ⟨n, 0, none⟩) len len ∧ h2.get n = some (.cells cs true ⟨e, 0, true⟩) :=
  Does.new hf rfl (hb h n)
/-- Loads, by what is known of the block. -/
theorem ld1 {t : TypeId} {b p : Nat} {cs : List Value} {own : Bool} {ci : CI} {v : Value} (ht : isAggE P t = some false) (hi : (P.info? t).isSome = true) (hb : h.get b = some (.cells cs own ci)) (hc : cs[p]? = some v) : loadE P t (.pointer (some ⟨b, p, none⟩)) h = some v := by
  obtain ⟨i, hi⟩ := Option.isSome_iff_exists.1 hi
  simp only [loadE, ht, hi, hb, hc]
theorem ldR {t : TypeId} {b p k : Nat} {xs : List Value} (ht : isAggE P t = some true) (hi : (P.info? t).map (·.size) = some k) (hr : rowE h b p k = some xs) : loadE P t (.pointer (some ⟨b, p, none⟩)) h = some (.agg xs.toArray) := by
  cases h40 : P.info? t with
  | none => rw [h40] at hi; cases hi
  | some inf =>
    rw [h40] at hi
    simp only [Option.map_some, Option.some.injEq] at hi
    simp only [loadE, ht, h40, hi, hr, Option.map_some]
theorem ldA {t : TypeId} {b p k : Nat} {cs xs : List Value} {own : Bool} {ci : CI} (ht : isAggE P t = some true) (hi : (P.info? t).map (·.size) = some k) (hb : h.get b = some (.cells cs own ci)) (hx : (cs.drop p).take k = xs) (hle : p + k ≤ cs.length) : loadE P t (.pointer (some ⟨b, p, none⟩)) h = some (.agg xs.toArray) :=
  ldR ht hi (by rw [rowE_of hb hle, hx])
theorem minE (a b : Int) : (if b < a then b else a) = min a b := by rw [Int.min_def]; split <;> split <;> omega
theorem shr_lit {a c d : Int} (hd : d = c) (h0 : 0 ≤ d) : a.fdiv d = a / c := by rw [Int.fdiv_eq_ediv_of_nonneg a h0, hd]
theorem okF {p : Prop} [Decidable p] (h : ¬ p) : some (Value.bool (decide p)) = some (.bool false) := by rw [decide_eq_false h]
theorem okI {k : IntKind} {a b : Int} (h : a = b) : some (Value.int k a) = some (.int k b) := by rw [h]
theorem okS {a b : ByteArray} (h : a = b) : some (Value.string a) = some (.string b) := by rw [h]
theorem eqS_of {a b : ByteArray} : eqS a b = true ↔ a = b := by
  unfold eqS
  rw [beq_iff_eq]
  constructor
  · intro h; apply ByteArray.ext; exact Array.ext' h
  · intro h; rw [h]
theorem eqT {a b : ByteArray} (h : a = b) : some (Value.bool (eqS a b)) = some (.bool true) := by rw [eqS_of.2 h]
theorem eqF {a b : ByteArray} (h : ¬ a = b) : some (Value.bool (eqS a b)) = some (.bool false) := by
  cases e : eqS a b with
  | false => rfl
  | true => exact (h (eqS_of.1 e)).elim
theorem eqD (a b : ByteArray) : some (Value.bool (eqS a b)) = some (.bool (decide (a = b))) := by
  by_cases h : a = b
  · rw [eqT h, decide_eq_true h]
  · rw [eqF h, decide_eq_false h]
theorem neD (a b : ByteArray) : some (Value.bool (!eqS a b)) = some (.bool (!decide (a = b))) := by
  have := eqD a b
  simp only [Option.some.injEq, Value.bool.injEq] at this
  rw [this]
/-- A byte of a string, and a part of one. -/
def bt (s : ByteArray) (i : Int) : Int := ((s.data.toList[i.toNat]?).getD 0).toNat
theorem bt_lt (s : ByteArray) (i : Int) : 0 ≤ bt s i ∧ bt s i < 256 := by
  unfold bt
  have := UInt8.toNat_lt ((s.data.toList[i.toNat]?).getD 0)
  omega
def sub (s : ByteArray) (l u : Int) : ByteArray := sliceS s l.toNat u.toNat
theorem index_str {P : Program} {t : TypeId} {s : ByteArray} {i : Int} {k : IntKind} (hu : P.underlying t = some .string) (h0 : 0 ≤ i) (h1 : i < (s.data.toList.length : Nat)) : indexE P t (.string s) (.int k i) = some (.int .u8 (bt s i)) := by
  unfold indexE
  rw [hu]
  simp only
  rw [if_pos h0]
  have hlt : i.toNat < s.data.toList.length := by omega
  rw [List.getElem?_eq_getElem hlt]
  simp only [bt, List.getElem?_eq_getElem hlt, Option.getD_some]
/-- Numbers that fit. -/
theorem wrap_i64 {x : Int} (h0 : -9223372036854775808 ≤ x) (h1 : x < 9223372036854775808) : IntKind.i64.wrap x = x := by
  have e : IntKind.i64.wrap x = if (x % 18446744073709551616) ≥ 9223372036854775808 then x % 18446744073709551616 - 18446744073709551616 else x % 18446744073709551616 := by
    simp [IntKind.wrap, IntKind.bits, IntKind.signed]
  rw [e]
  split <;> omega
theorem wrap_u64 {x : Int} (h0 : 0 ≤ x) (h1 : x < 18446744073709551616) : IntKind.u64.wrap x = x := by
  have e : IntKind.u64.wrap x = x % 18446744073709551616 := by simp [IntKind.wrap, IntKind.bits, IntKind.signed]
  rw [e]; omega
end
/-- A function's body: it makes. -/
theorem Makes.of_bodyV {P : Program} {f : FuncId} {fn : Func} {c : Code} {args vs : List Value} {h : Heap} {n : Nat} {S : List Nat} {R : Value → Heap → Nat → Prop}
    (hf : P.funcs[f]? = some fn) (hb : fn.body = some c) (hvs : vs = args ++ List.replicate (fn.ntmps - args.length) undef)
    (q : AWp P c (bodyA P fn fun r h' n' => ∃ v, r = .ret v ∧ SubBut h h' S ∧ n ≤ n' ∧ R v h' n') (frameV vs) h n) : Makes P f args h n S R :=
  ACall.of_bodyV hf hb hvs q
theorem Makes.ret {P : Program} {fn : Func} {vs rs : List Value} {h0 h : Heap} {n0 n : Nat} {S : List Nat} {R : Value → Heap → Nat → Prop} {v : Value}
    (hr : resultsE P (frameV vs) h fn.results.toList = some rs) (hv : tupleE rs = v) (hs : SubBut h0 h S) (hn : n0 ≤ n) (q : R v h n) :
    bodyA P fn (fun r h' n' => ∃ v, r = .ret v ∧ SubBut h0 h' S ∧ n0 ≤ n' ∧ R v h' n') .ret (frameV vs) h n := ⟨rfl, rs, hr, v, by rw [hv], hs, hn, q⟩
theorem AWp.condT {P : Program} {Q : APost} {vs : List Value} {h : Heap} {n : Nat} {c : Operand} {x y : Code} (ho : okOperand P.globals.size c = true) (hc : evalV vs c = .bool true) (hx : AWp P x Q (frameV vs) h n) : AWp P (.cond c x y) Q (frameV vs) h n :=
  AWp.testV ho hc (fun _ => hx) (fun e => by cases e)
theorem AWp.condF {P : Program} {Q : APost} {vs : List Value} {h : Heap} {n : Nat} {c : Operand} {x y : Code} (ho : okOperand P.globals.size c = true) (hc : evalV vs c = .bool false) (hy : AWp P y Q (frameV vs) h n) : AWp P (.cond c x y) Q (frameV vs) h n :=
  AWp.testV ho hc (fun e => by cases e) (fun _ => hy)
/-! Slices as rows of elements. -/
structure Enc (α : Type) where
  k : Nat
  cells : α → List Value
  len : ∀ x, (cells x).length = k
  pos : 0 < k
namespace Enc
variable {α : Type} (E : Enc α)
def row (xs : List α) : List Value := xs.flatMap E.cells
theorem row_length (xs : List α) : (E.row xs).length = E.k * xs.length := by
  induction xs with
  | nil => simp [row]
  | cons x xs ih =>
    have : E.row (x :: xs) = E.cells x ++ E.row xs := rfl
    rw [this, List.length_append, ih, E.len, List.length_cons, Nat.mul_succ]; omega
theorem row_append (xs ys : List α) : E.row (xs ++ ys) = E.row xs ++ E.row ys := by simp [row]
theorem row_get : ∀ (xs : List α) (i : Nat) (x : α), xs[i]? = some x → ∀ j y, (E.cells x)[j]? = some y → (E.row xs)[E.k * i + j]? = some y := by
  intro xs
  induction xs with
  | nil => intro i x h; simp at h
  | cons z xs ih =>
    intro i x h j y hj
    have e : E.row (z :: xs) = E.cells z ++ E.row xs := rfl
    have hz := E.len z
    rw [e]
    cases i with
    | zero =>
      simp at h; subst h
      have hj2 := (List.getElem?_eq_some_iff.1 hj).1
      rw [Nat.mul_zero, Nat.zero_add, List.getElem?_append_left hj2]
      exact hj
    | succ i =>
      rw [List.getElem?_append_right (by rw [hz, Nat.mul_succ]; omega), hz, show E.k * (i + 1) + j - E.k = E.k * i + j by rw [Nat.mul_succ]; omega]
      exact ih i x (by simpa using h) j y hj
theorem row_take : ∀ (xs : List α) (i : Nat), (E.row xs).take (E.k * i) = E.row (xs.take i) := by
  intro xs
  induction xs with
  | nil => intro i; simp [row]
  | cons z xs ih =>
    intro i
    cases i with
    | zero => simp [row]
    | succ i =>
      have e : E.row (z :: xs) = E.cells z ++ E.row xs := rfl
      have e2 : E.row ((z :: xs).take (i + 1)) = E.cells z ++ E.row (xs.take i) := rfl
      rw [e, e2, ← ih, List.take_append, E.len, List.take_of_length_le (by rw [E.len, Nat.mul_succ]; omega), show E.k * (i + 1) - E.k = E.k * i by rw [Nat.mul_succ]; omega]
end Enc
/-- A value is a slice that reads as a list. -/
def IsRow {α : Type} (E : Enc α) (h : Heap) (v : Value) (xs : List α) : Prop :=
  (xs = [] ∧ (v = .slice none 0 0 ∨ ∃ b o cap, v = .slice (some ⟨b, o, none⟩) 0 cap)) ∨
  ∃ (b o cap : Nat) (cs : List Value) (own : Bool) (ci : CI), v = .slice (some ⟨b, o, none⟩) xs.length cap ∧ xs.length ≤ cap ∧ h.get b = some (.cells cs own ci) ∧ (cs.drop o).take (E.k * xs.length) = E.row xs ∧ o + E.k * xs.length ≤ cs.length
/-- A slice that nobody else holds: it may be written to, and appended to. -/
def OwnRow {α : Type} (E : Enc α) (e : TypeId) (h0 h : Heap) (v : Value) (xs : List α) : Prop :=
  (xs = [] ∧ (v = .slice none 0 0 ∨ ∃ b o, v = .slice (some ⟨b, o, none⟩) 0 0)) ∨
  ∃ (b cap : Nat) (ci : CI), v = .slice (some ⟨b, 0, none⟩) xs.length cap ∧ h.get b = some (.cells (E.row xs) true ci) ∧ h0.get b = none ∧ ci.e = e ∧ (0 < xs.length ∧ xs.length ≤ cap) ∧ ((cap = U ∧ ci.k = E.k) ∨ cap = xs.length)
/-- The block of a slice. -/
def blkOf : Value → List Nat
  | .slice (some ⟨b, _, _⟩) l _ => if l = 0 then [] else [b]
  | _ => []
section
variable {α : Type} {E : Enc α} {h h' h0 : Heap} {v : Value} {xs ys : List α} {P : Program} {n : Nat} {S : List Nat}
theorem IsRow.slice (q : IsRow E h v xs) : ∃ a cap, v = .slice a xs.length cap := by
  rcases q with ⟨rfl, rfl | ⟨b, o, cap, rfl⟩⟩ | ⟨b, o, cap, cs, own, ci, rfl, _⟩
  · exact ⟨_, _, rfl⟩
  · exact ⟨_, _, rfl⟩
  · exact ⟨_, _, rfl⟩
theorem IsRow.nil : IsRow E h (.slice none 0 0) [] := .inl ⟨rfl, .inl rfl⟩
theorem IsRow.empty {b o cap : Nat} : IsRow E h (.slice (some ⟨b, o, none⟩) 0 cap) [] := .inl ⟨rfl, .inr ⟨b, o, cap, rfl⟩⟩
theorem IsRow.of {b cap : Nat} {own : Bool} {ci : CI} (hb : h.get b = some (.cells (E.row xs) own ci)) (hc : xs.length ≤ cap) : IsRow E h (.slice (some ⟨b, 0, none⟩) xs.length cap) xs :=
  .inr ⟨b, 0, cap, _, own, ci, rfl, hc, hb, by rw [List.drop_zero, ← E.row_length, List.take_length], by rw [E.row_length]; omega⟩
theorem IsRow.but {S : List Nat} (q : IsRow E h v xs) (s : SubBut h h' S) (hS : ∀ b ∈ blkOf v, b ∉ S) : IsRow E h' v xs := by
  rcases q with q | ⟨b, o, cap, cs, own, ci, rfl, h1, h2, h3⟩
  · exact .inl q
  · by_cases hc : xs.length = 0
    · have h1 : xs = [] := List.eq_nil_of_length_eq_zero hc
      subst h1
      exact .inl ⟨rfl, .inr ⟨b, o, cap, rfl⟩⟩
    · exact .inr ⟨b, o, cap, cs, own, ci, rfl, h1, s b _ (hS b (by simp [blkOf, hc])) h2, h3⟩
theorem IsRow.sub (q : IsRow E h v xs) (s : h.sub h') : IsRow E h' v xs := q.but (.of_sub s []) (by simp)
theorem IsRow.keep (q : IsRow E h v xs) (s : SubBut h h' []) : IsRow E h' v xs := q.sub s.sub
/-- A row that stood there lies apart from what is new. -/
theorem IsRow.ne {b0 : Nat} (q : IsRow E h v xs) (hb : h.get b0 = Option.none) : ∀ b ∈ blkOf v, b ∉ [b0] := by
  intro b hm hn
  rw [List.mem_singleton] at hn
  subst hn
  rcases q with ⟨rfl, rfl | ⟨b', o, cap, rfl⟩⟩ | ⟨b', o, cap, cs, own, ci, rfl, h1, h2, h3⟩
  · simp [blkOf] at hm
  · simp [blkOf] at hm
  · simp only [blkOf] at hm
    split at hm
    · simp at hm
    · simp at hm; subst hm; rw [hb] at h2; cases h2
theorem IsRow.at {t e : TypeId} (hu : P.underlying t = some (.slice e)) (hi : (P.info? e).map (·.size) = some E.k) (q : IsRow E h v xs) {i : Int} {x : α} (h0 : 0 ≤ i) (hx : xs[i.toNat]? = some x) {k : IntKind} :
    ∃ b o cs own ci, indexAddrE P t v (.int k i) = some (.pointer (some ⟨b, o, none⟩)) ∧ h.get b = some (.cells cs own ci) ∧ (∀ j y, (E.cells x)[j]? = some y → cs[o + j]? = some y) ∧ rowE h b o E.k = some (E.cells x) := by
  have hlt := (List.getElem?_eq_some_iff.1 hx).1
  rcases q with ⟨rfl, _⟩ | ⟨b, o, cap, cs, own, ci, rfl, h1, h2, h3, h4⟩
  · simp at hlt
  · have hcell : ∀ j y, (E.cells x)[j]? = some y → cs[o + i.toNat * E.k + j]? = some y := by
      intro j y hj
      have hj2 := (List.getElem?_eq_some_iff.1 hj).1
      rw [E.len] at hj2
      have h5 := E.row_get xs i.toNat x hx j y hj
      have hm : E.k * i.toNat + E.k ≤ E.k * xs.length := by rw [← Nat.mul_succ]; exact Nat.mul_le_mul_left _ hlt
      rw [← h3, List.getElem?_take, if_pos (by omega), List.getElem?_drop] at h5
      rw [← h5, Nat.mul_comm i.toNat]
      congr 1; omega
    have hm : E.k * i.toNat + E.k ≤ E.k * xs.length := by rw [← Nat.mul_succ]; exact Nat.mul_le_mul_left _ hlt
    rw [Nat.mul_comm E.k i.toNat] at hm
    refine ⟨b, o + i.toNat * E.k, cs, own, ci, ?_, h2, hcell, ?_⟩
    · unfold indexAddrE
      rw [hu]
      simp only
      cases h40 : P.info? e with
      | none => rw [h40] at hi; cases hi
      | some inf =>
        rw [h40] at hi
        simp only [Option.map_some, Option.some.injEq] at hi
        simp only [hi]
        rw [if_pos (by omega)]
    · rw [rowE_of h2 (by omega)]
      congr 1
      apply List.ext_getElem?
      intro j
      rw [List.getElem?_take]
      split
      · rename_i hj
        rw [List.getElem?_drop]
        have hj2 : j < (E.cells x).length := by rw [E.len]; exact hj
        rw [List.getElem?_eq_getElem hj2]
        exact hcell j _ (List.getElem?_eq_getElem hj2)
      · rename_i hj
        rw [List.getElem?_eq_none (by rw [E.len]; omega)]
theorem IsRow.src (q : IsRow E h v xs) : srcE h E.k v = some (E.row xs, xs.length) := by
  rcases q with ⟨rfl, rfl | ⟨b, o, cap, rfl⟩⟩ | ⟨b, o, cap, cs, own, ci, rfl, h1, h2, h3, h4⟩
  · rfl
  · simp only [srcE, Nat.zero_mul, rowE_zero]
    rfl
  · have := Nat.mul_comm E.k xs.length
    simp only [srcE]
    rw [rowE_of h2 (by omega), ← this, h3]
theorem OwnRow.is {e : TypeId} (q : OwnRow E e h0 h v xs) : IsRow E h v xs := by
  rcases q with ⟨rfl, rfl | ⟨b, o, rfl⟩⟩ | ⟨b, cap, ci, rfl, h1, h2, h3, hlp, h4⟩
  · exact .nil
  · exact .empty
  · exact .of h1 hlp.2
theorem OwnRow.nil {e : TypeId} : OwnRow E e h0 h (.slice none 0 0) [] := .inl ⟨rfl, .inl rfl⟩
theorem OwnRow.but {e : TypeId} {S : List Nat} (q : OwnRow E e h0 h v xs) (s : SubBut h h' S) (hS : ∀ b ∈ blkOf v, b ∉ S) : OwnRow E e h0 h' v xs := by
  rcases q with q | ⟨b, cap, ci, rfl, h1, h2, h3, hlp, h4⟩
  · exact .inl q
  · refine .inr ⟨b, cap, ci, rfl, s b _ (hS b ?_) h1, h2, h3, hlp, h4⟩
    have : xs ≠ [] := List.ne_nil_of_length_pos hlp.1
    simp [blkOf, this]
theorem OwnRow.keep {e : TypeId} (q : OwnRow E e h0 h v xs) (s : SubBut h h' []) : OwnRow E e h0 h' v xs := q.but s (by simp)
theorem OwnRow.slice {e : TypeId} (q : OwnRow E e h0 h v xs) : ∃ a cap, v = .slice a xs.length cap := by
  rcases q with ⟨rfl, rfl | ⟨b, o, rfl⟩⟩ | ⟨b, cap, ci, rfl, h1, h2, h3, hlp, h4⟩
  · exact ⟨_, _, rfl⟩
  · exact ⟨_, _, rfl⟩
  · exact ⟨_, _, rfl⟩
/-- What was not there at an earlier time is its own for that time, too. -/
theorem OwnRow.from {e : TypeId} {h1 : Heap} (q : OwnRow E e h1 h v xs) (s : h0.sub h1) : OwnRow E e h0 h v xs := by
  rcases q with q | ⟨b, cap, ci, rfl, h2, h3, h4⟩
  · exact .inl q
  · refine .inr ⟨b, cap, ci, rfl, h2, ?_, h4⟩
    cases hb : h0.get b with
    | none => rfl
    | some o => rw [s b o hb] at h3; cases h3
/-- It lies apart from what was there. -/
theorem OwnRow.ne {e : TypeId} {b0 : Nat} {o : AObj} (q : OwnRow E e h0 h v xs) (hb : h0.get b0 = some o) : ∀ b ∈ blkOf v, b ∉ [b0] := by
  intro b hm hn
  rw [List.mem_singleton] at hn
  subst hn
  rcases q with ⟨rfl, rfl | ⟨b', o, rfl⟩⟩ | ⟨b', cap, ci, rfl, h1, h2, h3, hlp, h4⟩
  · simp [blkOf] at hm
  · simp [blkOf] at hm
  · simp only [blkOf] at hm
    split at hm
    · simp at hm
    · simp at hm; subst hm; rw [hb] at h2; cases h2
/-- It lies apart from what is new. -/
theorem OwnRow.ne' {e : TypeId} {b0 : Nat} (q : OwnRow E e h0 h v xs) (hb : h.get b0 = none) : ∀ b ∈ blkOf v, b ∉ [b0] := by
  intro b hm hn
  rw [List.mem_singleton] at hn
  subst hn
  rcases q with ⟨rfl, rfl | ⟨b', o, rfl⟩⟩ | ⟨b', cap, ci, rfl, h1, h2, h3, hlp, h4⟩
  · simp [blkOf] at hm
  · simp [blkOf] at hm
  · simp only [blkOf] at hm
    split at hm
    · simp at hm
    · simp at hm; subst hm; rw [hb] at h1; cases h1
/-- What turns in it alone turns nothing that was there. -/
theorem OwnRow.fresh {e : TypeId} {h2 : Heap} (q : OwnRow E e h0 h v xs) (s : SubBut h0 h S) (s2 : SubBut h h2 (blkOf v)) : SubBut h0 h2 S := by
  intro c o hc hg
  refine s2 c o ?_ (s c o hc hg)
  intro hm
  exact q.ne hg c hm (List.mem_singleton.2 rfl)
theorem OwnRow.blk {e : TypeId} {g : Heap} (q : OwnRow E e g h v xs) : ∀ c ∈ blkOf v, g.get c = none := by
  intro c hc
  rcases q with ⟨rfl, rfl | ⟨b, o, rfl⟩⟩ | ⟨b, cap, ci, rfl, h2, h3, h4, h5, h6⟩
  · simp [blkOf] at hc
  · simp [blkOf] at hc
  · simp only [blkOf] at hc
    split at hc
    · simp at hc
    · simp at hc; subst hc; exact h3
theorem nil_sub (h : Heap) (S : List Nat) : SubBut (Trie.nil : Heap) h S := fun _ _ _ e => by cases e
/-- A step at blocks that may turn, or that were not there at the begin. -/
theorem SubBut.own {h h1 h2 : Heap} {S : List Nat} {n : Nat} {v : Value} (a : SubBut h h1 S) (hB : ∀ c ∈ blkOf v, c ∈ S ∨ n ≤ c) (hf : Free h n) (s : SubBut h1 h2 (blkOf v)) : SubBut h h2 S := by
  intro c o hc hg
  refine s c o (fun hm => ?_) (a c o hc hg)
  rcases hB c hm with q | q
  · exact hc q
  · rw [hf c q] at hg; cases hg
/-- What an append asks of a type. -/
structure AppT {α : Type} (P : Program) (E : Enc α) (st e : TypeId) (bytes : Nat) : Prop where
  und : P.underlying st = some (.slice e)
  info : (P.info? e).map (fun i => (i.size, i.bytes)) = some (E.k, bytes)
  zero : (zeroOf P e).map (fun z => z.cells.toList.length) = some E.k
  one : ∀ x, ((E.cells x).all fun y => y.oneCell') = true
theorem AppT.row_one {st e : TypeId} {bytes : Nat} (a : AppT P E st e bytes) (ys : List α) : ((E.row ys).all fun y => y.oneCell') = true := by
  rw [List.all_eq_true]
  intro y hy
  obtain ⟨x, _, hx⟩ := List.mem_flatMap.1 hy
  exact List.all_eq_true.1 (a.one x) y hx
theorem append_step {st e xt : TypeId} {bytes : Nat} (a : AppT P E st e bytes) {d : TypeDesc} (hd : P.underlying xt = some d) (hdi : ∀ k, d ≠ .int k) {i : TypeInfo} (hi : P.info? e = some i) (hik : i.size = E.k) {s x : Value} (hx : srcE h E.k x = some (E.row ys, ys.length)) {r : Option (ARes × Heap × Nat)}
    (hr : (match s with
          | .slice none 0 0 =>
            if ys.length = 0 then some (ARes.val s, h, n)
            else if (2 * ys.length + 768) * i.bytes ≤ 2 ^ 48 ∧ ys.length < 2 ^ 62 then
              some (.val (.slice (some ⟨n, 0, none⟩) ys.length U), h.set n (.cells (E.row ys) true ⟨e, i.size, false⟩), n + 1)
            else none
          | .slice (some ⟨b, o, none⟩) len cap =>
            if ys.length = 0 then (if len ≤ cap then some (.val s, h, n) else none)
            else if (2 * (len + ys.length) + 768) * i.bytes ≤ 2 ^ 48 ∧ len + ys.length < 2 ^ 62 then
              if cap = U then
                match h.get b with
                | some (.cells cs true ci) =>
                  if ci.k = i.size ∧ o + len * i.size = cs.length ∧ ci.e = e then
                    some (.val (.slice (some ⟨n, 0, none⟩) (len + ys.length) U), (Trie.del h b).set n (.cells (cs.drop o ++ E.row ys) true ⟨e, i.size, false⟩), n + 1)
                  else none
                | _ => none
              else if len + ys.length ≤ cap then
                match h.get b with
                | some (.cells cs true ci) =>
                  if o + (len + ys.length) * i.size ≤ cs.length then
                    some (.val (.slice (some ⟨b, o, none⟩) (len + ys.length) cap), h.set b (.cells (setAll cs (o + len * i.size) (E.row ys)) true ci), n)
                  else none
                | _ => none
              else if len ≤ cap then
                match rowE h b o (len * i.size) with
                | some old => some (.val (.slice (some ⟨n, 0, none⟩) (len + ys.length) U), h.set n (.cells (old ++ E.row ys) true ⟨e, i.size, false⟩), n + 1)
                | none => none
              else none
            else none
          | _ => none) = r) : appendE P [st, xt] [s, x] h n = r := by
  cases hz : zeroOf P e with
  | none => have := a.zero; rw [hz] at this; cases this
  | some z =>
  have az := a.zero
  rw [hz] at az
  simp only [Option.map_some, Option.some.injEq] at az
  have hpos := E.pos
  have hsrc : srcE h i.size x = some (E.row ys, ys.length) := by rw [hik]; exact hx
  cases d
  case int k => exact (hdi k rfl).elim
  all_goals
    simp only [appendE, a.und, hd, hi, hz, hsrc, a.row_one]
    rw [if_pos ⟨by rw [az, hik], by omega⟩]
    simp only [if_true]
    exact hr
theorem append_row {st e xt : TypeId} {bytes : Nat} (a : AppT P E st e bytes) (hxt : ∃ d, P.underlying xt = some d ∧ ∀ k, d ≠ .int k) (hf : Free h n) (s0 : SubBut h0 h S) {s x : Value} (hs : OwnRow E e h0 h s xs) (hx : srcE h E.k x = some (E.row ys, ys.length)) (hb : (2 * (xs.length + ys.length) + 768) * bytes ≤ 2 ^ 48) (hb2 : xs.length + ys.length < 2 ^ 62) (hf0 : h0.get n = none) :
    ∃ v2 h2 n2, appendE P [st, xt] [s, x] h n = some (.val v2, h2, n2) ∧ SubBut h h2 (blkOf s) ∧ n ≤ n2 ∧ Free h2 n2 ∧ OwnRow E e h0 h2 v2 (xs ++ ys) ∧ SubBut h0 h2 S ∧ ∀ c ∈ blkOf v2, c ∈ blkOf s ∨ c = n := by
  obtain ⟨d, hd, hdi⟩ := hxt
  cases hi : P.info? e with
  | none => have := a.info; rw [hi] at this; cases this
  | some i =>
  have ai := a.info
  rw [hi] at ai
  simp only [Option.map_some, Option.some.injEq, Prod.mk.injEq] at ai
  obtain ⟨hik, hib⟩ := ai
  have hpos := E.pos
  have hUl : xs.length ≤ U := by unfold U; omega
  rcases hs with ⟨rfl, hnil⟩ | ⟨b, cap, ci, rfl, h1, h2, h3, hlp, h4⟩
  · simp only [List.length_nil, Nat.zero_add] at hb hb2
    by_cases hy : ys.length = 0
    · have : ys = [] := List.eq_nil_of_length_eq_zero hy
      subst this
      refine ⟨s, h, n, append_step a hd hdi hi hik hx ?_, .refl _ _, Nat.le_refl _, hf, .inl ⟨rfl, hnil⟩, s0, fun c hc => .inl hc⟩
      rcases hnil with rfl | ⟨b, o, rfl⟩
      · simp
      · simp
    · refine ⟨_, _, _, append_step a hd hdi hi hik hx (r := some (.val (.slice (some ⟨n, 0, none⟩) ys.length U), h.set n (.cells (E.row ys) true ⟨e, i.size, false⟩), n + 1)) ?_, .of_sub (sub_alloc hf) _, Nat.le_succ n, hf.set, ?_, s0.trans (.of_sub (sub_alloc hf) _), ?_⟩
      · rcases hnil with rfl | ⟨b, o, rfl⟩
        · simp only [hib]
          rw [if_neg hy, if_pos ⟨hb, hb2⟩]
        · simp only [hib, Nat.zero_add]
          rw [if_neg hy, if_pos ⟨hb, hb2⟩, if_neg (by decide), if_neg (by omega), if_pos (Nat.le_refl _), Nat.zero_mul, rowE_zero]
          simp
      · rw [hik]
        exact .inr ⟨n, U, _, rfl, Trie.get_set_same _ _ _, hf0, rfl, by simp only [List.nil_append, U]; omega, .inl ⟨rfl, rfl⟩⟩
      · intro c hc
        simp only [blkOf] at hc
        split at hc
        · simp at hc
        · simp at hc; exact .inr hc
  · by_cases hy : ys.length = 0
    · have : ys = [] := List.eq_nil_of_length_eq_zero hy
      subst this
      refine ⟨_, _, _, append_step a hd hdi hi hik hx (r := some (.val (.slice (some ⟨b, 0, none⟩) xs.length cap), h, n)) ?_, .refl _ _, Nat.le_refl _, hf, ?_, s0, fun c hc => .inl hc⟩
      · simp only [List.length_nil, if_true]
        rw [if_pos hlp.2]
      · rw [List.append_nil]
        exact .inr ⟨b, cap, ci, rfl, h1, h2, h3, hlp, h4⟩
    · have hne : b ≠ n := hf.ne h1
      rcases h4 with ⟨rfl, hk⟩ | rfl
      · refine ⟨_, _, _, append_step a hd hdi hi hik hx (r := some (.val (.slice (some ⟨n, 0, none⟩) (xs.length + ys.length) U), (Trie.del h b).set n (.cells (E.row xs ++ E.row ys) true ⟨e, i.size, false⟩), n + 1)) ?_, ?_, Nat.le_succ n, ?_, ?_, ?_, ?_⟩
        · simp only [hib, h1]
          rw [if_neg hy, if_pos ⟨hb, hb2⟩, if_pos trivial, if_pos ⟨by rw [hk, hik], by rw [E.row_length, hik]; rw [Nat.mul_comm]; omega, h3⟩]
          rfl
        · intro c o hc hg
          rw [Trie.get_set, if_neg (hf.ne hg), Trie.get_del, if_neg (by simpa [blkOf, List.ne_nil_of_length_pos hlp.1] using hc)]
          exact hg
        · intro c hc
          rw [Trie.get_set, if_neg (by omega), Trie.get_del]
          split
          · rfl
          · exact hf c (by omega)
        · rw [hik, ← E.row_append]
          exact .inr ⟨n, U, _, by rw [List.length_append], Trie.get_set_same _ _ _, hf0, rfl, by rw [List.length_append]; unfold U; omega, .inl ⟨rfl, rfl⟩⟩
        · intro c o hc hg
          have hg' := s0 c o hc hg
          rw [Trie.get_set, if_neg (hf.ne hg'), Trie.get_del, if_neg (ne_of_get hg h2)]
          exact hg'
        · intro c hc
          simp only [blkOf] at hc
          split at hc
          · simp at hc
          · simp at hc; exact .inr hc
      · refine ⟨_, _, _, append_step a hd hdi hi hik hx (r := some (.val (.slice (some ⟨n, 0, none⟩) (xs.length + ys.length) U), h.set n (.cells (E.row xs ++ E.row ys) true ⟨e, i.size, false⟩), n + 1)) ?_, .of_sub (sub_alloc hf) _, Nat.le_succ n, hf.set, ?_, s0.trans (.of_sub (sub_alloc hf) _), ?_⟩
        · have hcu : xs.length ≠ U := by unfold U; omega
          simp only [hib]
          rw [if_neg hy, if_pos ⟨hb, hb2⟩, if_neg hcu, if_neg (by omega), if_pos (Nat.le_refl _), rowE_of h1 (by rw [E.row_length, hik, Nat.mul_comm]; omega), List.drop_zero]
          simp only
          rw [hik, Nat.mul_comm, ← E.row_length, List.take_length]
        · rw [hik, ← E.row_append]
          exact .inr ⟨n, U, _, by rw [List.length_append], Trie.get_set_same _ _ _, hf0, rfl, by rw [List.length_append]; unfold U; omega, .inl ⟨rfl, rfl⟩⟩
        · intro c hc
          simp only [blkOf] at hc
          split at hc
          · simp at hc
          · simp at hc; exact .inr hc
theorem Does.append {ρ : Operand → Value} {dst : Option Tmp} {a0 a1 : Operand} {st e xt ty : TypeId} {bytes : Nat} {pos : String} {after : Array Edge} {guard : Option (Nat × Bool)} {s x : Value} (a : AppT P E st e bytes) (hxt : ∃ d, P.underlying xt = some d ∧ ∀ k, d ≠ .int k)
    (hf : Free h n) (s0 : SubBut h0 h S) (hs : OwnRow E e h0 h s xs) (hx : IsRow E h x ys) (e0 : ρ a0 = s) (e1 : ρ a1 = x) (hb : (2 * (xs.length + ys.length) + 768) * bytes ≤ 281474976710656) (hb2 : xs.length + ys.length < 4611686018427387904) (hf0 : h0.get n = none) :
    Does P ⟨dst, .call { callee := .builtin .append, args := #[a0, a1], argTypes := #[st, xt] }, ty, pos, after, guard⟩ ρ h n (blkOf s) fun v h2 _ => OwnRow E e h0 h2 v (xs ++ ys) ∧ SubBut h0 h2 S ∧ ∀ c ∈ blkOf v, c ∈ blkOf s ∨ c = n := by
  obtain ⟨v2, h2, n2, e2, g1, g2, g3, g4, g5, g6⟩ := append_row a hxt hf s0 hs hx.src (by omega) hb2 hf0
  refine ⟨rfl, _, v2, h2, n2, ?_, .inl rfl, g1, g2, g3, g4, g5, g6⟩
  show appendE P [st, xt] [ρ a0, ρ a1] h n = _
  rw [e0, e1, e2]
/-- Bytes. -/
def encByte : Enc UInt8 := ⟨1, fun c => [.int .u8 c.toNat], fun _ => rfl, by decide⟩
theorem byte_row (bs : List UInt8) : encByte.row bs = bs.map fun b => Value.int .u8 b.toNat := by
  unfold Enc.row
  induction bs with
  | nil => rfl
  | cons b r ih => rw [List.flatMap_cons, List.map_cons, ih]; rfl
theorem str_src (s : ByteArray) : srcE h encByte.k (.string s) = some (encByte.row s.data.toList, s.data.toList.length) := by
  rw [byte_row]; rfl
theorem bytesE_map (bs : List UInt8) : bytesE (bs.map fun b => Value.int .u8 b.toNat) = some (bs.map fun b => (b.toNat : Int)) := by
  induction bs with
  | nil => rfl
  | cons b r ih => simp only [List.map_cons, bytesE, ih, Option.map_some]
/-- A row of bytes read as a string. -/
theorem IsRow.str {bs : List UInt8} {a b e : TypeId} (q : IsRow encByte h v bs) (ha : P.underlying a = some (.slice e)) (hb : P.underlying b = some .string) (he : P.underlying e = some (.int .u8)) : strOfE P a b v h = some (.string ⟨bs.toArray⟩) := by
  have hmap : (bs.map fun b => (b.toNat : Int)).map (fun n => UInt8.ofNat n.toNat) = bs := by
    rw [List.map_map]
    have : ((fun n : Int => UInt8.ofNat n.toNat) ∘ fun b : UInt8 => (b.toNat : Int)) = id := by
      funext x
      simp
    rw [this, List.map_id]
  rcases q with ⟨rfl, rfl | ⟨b', o, cap, rfl⟩⟩ | ⟨b', o, cap, cs, own, ci, rfl, h1, h2, h3, h4⟩
  · unfold strOfE
    simp only [ha, hb, he]
  · unfold strOfE
    simp only [ha, hb, he, rowE_zero, bytesE, List.map_nil]
  · unfold strOfE
    have hk : encByte.k = 1 := rfl
    rw [hk, Nat.one_mul] at h4 h3
    simp only [ha, hb, he]
    rw [rowE_of h2 h4, h3, byte_row]
    simp only [bytesE_map]
    rw [hmap]
theorem Does.appendS {ρ : Operand → Value} {dst : Option Tmp} {a0 a1 : Operand} {st e xt ty : TypeId} {bytes : Nat} {pos : String} {after : Array Edge} {guard : Option (Nat × Bool)} {s : Value} {bs : List UInt8} {x : ByteArray} (a : AppT P encByte st e bytes) (hxt : ∃ d, P.underlying xt = some d ∧ ∀ k, d ≠ .int k)
    (hf : Free h n) (s0 : SubBut h0 h S) (hs : OwnRow encByte e h0 h s bs) (e0 : ρ a0 = s) (e1 : ρ a1 = .string x) (hb : (2 * (bs.length + x.data.toList.length) + 768) * bytes ≤ 281474976710656) (hb2 : bs.length + x.data.toList.length < 4611686018427387904) (hf0 : h0.get n = none) :
    Does P ⟨dst, .call { callee := .builtin .append, args := #[a0, a1], argTypes := #[st, xt] }, ty, pos, after, guard⟩ ρ h n (blkOf s) fun v h2 _ => OwnRow encByte e h0 h2 v (bs ++ x.data.toList) ∧ SubBut h0 h2 S ∧ ∀ c ∈ blkOf v, c ∈ blkOf s ∨ c = n := by
  obtain ⟨v2, h2, n2, e2, g1, g2, g3, g4, g5, g6⟩ := append_row a hxt hf s0 hs (str_src x) (by omega) hb2 hf0
  refine ⟨rfl, _, v2, h2, n2, ?_, .inl rfl, g1, g2, g3, g4, g5, g6⟩
  show appendE P [st, xt] [ρ a0, ρ a1] h n = _
  rw [e0, e1, e2]
end
end Go.Abs
/- Stepping: the frames written out by instances; short words for the steps. -/
namespace Go.Abs
open Go Go.RowKit
/-- A slot is set: the frame written out. -/
class SetL (vs : List Value) (d : Nat) (v : Value) (vs' : outParam (List Value)) : Prop where
  eq : vs.set d v = vs'
instance {a0 v : Value} {r : List Value} : SetL (a0 :: r) 0 v (v :: r) := ⟨rfl⟩
instance {a0 a1 v : Value} {r : List Value} : SetL (a0 :: a1 :: r) 1 v (a0 :: v :: r) := ⟨rfl⟩
instance {a0 a1 a2 v : Value} {r : List Value} : SetL (a0 :: a1 :: a2 :: r) 2 v (a0 :: a1 :: v :: r) := ⟨rfl⟩
instance {a0 a1 a2 a3 v : Value} {r : List Value} : SetL (a0 :: a1 :: a2 :: a3 :: r) 3 v (a0 :: a1 :: a2 :: v :: r) := ⟨rfl⟩
instance {a0 a1 a2 a3 a4 v : Value} {r : List Value} : SetL (a0 :: a1 :: a2 :: a3 :: a4 :: r) 4 v (a0 :: a1 :: a2 :: a3 :: v :: r) := ⟨rfl⟩
instance {a0 a1 a2 a3 a4 a5 v : Value} {r : List Value} : SetL (a0 :: a1 :: a2 :: a3 :: a4 :: a5 :: r) 5 v (a0 :: a1 :: a2 :: a3 :: a4 :: v :: r) := ⟨rfl⟩
instance {a0 a1 a2 a3 a4 a5 a6 v : Value} {r : List Value} : SetL (a0 :: a1 :: a2 :: a3 :: a4 :: a5 :: a6 :: r) 6 v (a0 :: a1 :: a2 :: a3 :: a4 :: a5 :: v :: r) := ⟨rfl⟩
instance {a0 a1 a2 a3 a4 a5 a6 a7 v : Value} {r : List Value} : SetL (a0 :: a1 :: a2 :: a3 :: a4 :: a5 :: a6 :: a7 :: r) 7 v (a0 :: a1 :: a2 :: a3 :: a4 :: a5 :: a6 :: v :: r) := ⟨rfl⟩
instance {a0 a1 a2 a3 a4 a5 a6 a7 v : Value} {r r' : List Value} {n : Nat} [i : SetL r n v r'] : SetL (a0 :: a1 :: a2 :: a3 :: a4 :: a5 :: a6 :: a7 :: r) (n + 8) v (a0 :: a1 :: a2 :: a3 :: a4 :: a5 :: a6 :: a7 :: r') := ⟨by simp [i.eq]⟩
/-- An operation of a region, by its place. -/
class AtL (l : List Oper) (i : Nat) (o : outParam Oper) : Prop where
  eq : l[i]? = some o
/-- Whether a guarded operation is done. -/
def boolOf (w : Value) : Option Bool := match w with
  | .bool b => some b
  | _ => none
theorem wantG {ops : Array Oper} {o : Oper} {vs : List Value} {g d : Nat} {want : Bool} {w : Value} (hg : o.guard = some (g, want)) (hd : (ops[g]?).bind (·.dst) = some d) (hv : getV vs d = w) : wantedA ops o (frameV vs) = (boolOf w == some want) := by
  have e : yieldedA ops (frameV vs) g = boolOf w := by
    unfold yieldedA
    rw [hd]
    simp only
    rw [frameV_get, hv]
    cases w <;> rfl
  unfold wantedA Region.wanted
  rw [hg]
  simp only
  rw [e]
theorem wantT {ops : Array Oper} {o : Oper} {vs : List Value} {g d : Nat} {want : Bool} (hg : o.guard = some (g, want)) (hd : (ops[g]?).bind (·.dst) = some d) (hv : getV vs d = .bool want) : wantedA ops o (frameV vs) = true := by
  rw [wantG hg hd hv]; cases want <;> rfl
theorem wantF {ops : Array Oper} {o : Oper} {vs : List Value} {g d : Nat} {want : Bool} (hg : o.guard = some (g, want)) (hd : (ops[g]?).bind (·.dst) = some d) (hv : getV vs d = .bool (!want)) : wantedA ops o (frameV vs) = false := by
  rw [wantG hg hd hv]; cases want <;> rfl
theorem wantU {ops : Array Oper} {o : Oper} {vs : List Value} {g d : Nat} {want : Bool} (hg : o.guard = some (g, want)) (hd : (ops[g]?).bind (·.dst) = some d) (hv : getV vs d = undef) : wantedA ops o (frameV vs) = false := by
  rw [wantG hg hd hv]; cases want <;> rfl
/-- Where ways meet again. -/
theorem AWp.seqJ {P : Program} {Q : APost} {x y : Code} {vs : List Value} {h : Heap} {n : Nat} (J : List Value → Heap → Nat → Prop) (hx : AWp P x (AExit.then (fun fr h n => ∃ vs, fr = frameV vs ∧ J vs h n) Q) (frameV vs) h n)
    (hy : ∀ vs h n, J vs h n → AWp P y Q (frameV vs) h n) : AWp P (.seq x y) Q (frameV vs) h n := by
  refine AWp.seq (AWp.mono hx ?_)
  intro x fr' h' n' _ _ q
  cases x with
  | normal => obtain ⟨vs', rfl, j⟩ := q; exact hy vs' h' n' j
  | _ => exact q
/-- The rest of a region, in its row; and in any row. (Structures, so that nothing unfolds them.) -/
structure SW (P : Program) (ops : Array Oper) (Q : APost) (rest : List Oper) (vs : List Value) (h : Heap) (n : Nat) : Prop where
  run : seqW P (acall P) ops Q rest (frameV vs) h n
structure DV (P : Program) (ops : Array Oper) (Q : APost) (S : List Nat) (plan : List Nat) (vs : List Value) (h : Heap) (n : Nat) : Prop where
  run : DW P ops Q S plan vs h n
theorem AWp.rowV {P : Program} (ok : POk P) {Q : APost} {id : Nat} {l : List Oper} {vs : List Value} {h : Heap} {n : Nat} (q : SW P l.toArray Q l vs h n) : AWp P (.region id l.toArray false) Q (frameV vs) h n := AWp.seq_region ok q.run
theorem AWp.anyV {P : Program} (ok : POk P) {Q : APost} {id : Nat} {ops : Array Oper} {vs : List Value} {h : Heap} {n : Nat} (S : List Nat) (plan : List Nat) (hsel : Region.noSelect ops = true) (hp : planOk P ops plan (Array.replicate ops.size false) = true) (hlen : plan.length = ops.size) (hpan : PanExt [] Q)
    (q : DV P ops Q S plan vs h n) : AWp P (.region id ops true) Q (frameV vs) h n := AWp.drawV ok S plan hsel hp hlen hpan q.run
/-- A contract of the model's own, over any world: as one of memory. -/
theorem Tells.of_calls {P : Program} {f : FuncId} {args : List Value} {h : Heap} {n : Nat} {v : Value} (hargs : (args.all flat) = true) (hv : flat v = true)
    (c : ∀ μ w, Rel P μ h n w → Calls P f args.toArray w fun e w' => e = .returned v ∧ Below w.heap.size w w') : Tells P f args h n v := by
  intro μ args' w ha hr
  have e : args' = args.toArray := by
    symm
    apply arr_eq ha.1
    intro i x y hx hy
    have hfl : flat x = true := by
      rw [List.getElem?_toArray] at hx
      exact List.all_eq_true.1 hargs x (List.mem_of_getElem? hx)
    exact ((ha.2 i x y hx hy).flat_eq hfl).symm
  subst e
  refine (c μ w hr).mono ?_
  rintro e w' ⟨rfl, hb⟩
  refine ⟨μ, h, n, .ret v, .ret (.flat_self hv), ⟨?_, hr.sep, hr.bound, hr.glob⟩, ⟨μ.le_refl, hb.size, hb.os, hb.tape, hb.output, fun c hc _ => hb.block c hc, fun b' o' m' a b c _ => ⟨b', o', m', a, b, c, rfl⟩⟩, Nat.le_refl _, rfl, rfl, Nat.le_refl _⟩
  intro b o ho
  obtain ⟨m, x, h1, h2, h3⟩ := hr.obj b o ho
  have hlt : m.blk < w.heap.size := (Array.getElem?_eq_some_iff.1 h2).1
  exact ⟨m, x, h1, by rw [hb.block _ hlt]; exact h2, h3⟩
section
variable {P : Program} {Q : APost} {vs vs' : List Value} {h : Heap} {n : Nat} {ops : Array Oper} {o : Oper} {rest : List Oper} {d : Nat} {S S' : List Nat} {i : Nat} {plan : List Nat} {R : Value → Heap → Nat → Prop} {v : Value} {f : FuncId} {xs : List Value} {l : List Oper}
theorem sq.e (k : Q .normal (frameV vs) h n) : SW P ops Q [] vs h n := ⟨k⟩
theorem sq.c {v : Value} (hw : wantedA ops o (frameV vs) = true) (hok : okOper P.globals.size o = true) (hv : calmE P o (evalV vs) h = some v) (hd : o.dst = some d) [z : SetL vs d v vs'] (k : SW P ops Q rest vs' h n) : SW P ops Q (o :: rest) vs h n :=
  ⟨sq.calm vs' hw hok hv (by rw [hd]; exact z.eq) k.run⟩
theorem sq.s (hw : wantedA ops o (frameV vs) = false) (hd : o.dst = some d) [z : SetL vs d undef vs'] (k : SW P ops Q rest vs' h n) : SW P ops Q (o :: rest) vs h n :=
  ⟨seqV.skip vs' hw (by rw [hd]; exact z.eq) k.run⟩
theorem sq.s0 (hw : wantedA ops o (frameV vs) = false) (hd : o.dst = none) (k : SW P ops Q rest vs h n) : SW P ops Q (o :: rest) vs h n :=
  ⟨seqV.skip vs hw (by rw [hd]; rfl) k.run⟩
theorem sq.t {v : Value} (hw : wantedA ops o (frameV vs) = true) (hc : CallsF P o (evalV vs) f xs) (c : Free h n → Tells P f xs h n v) (hf : Free h n) (hd : o.dst = some d) [z : SetL vs d v vs']
    (k : ∀ n2, n ≤ n2 → Free h n2 → SW P ops Q rest vs' h n2) : SW P ops Q (o :: rest) vs h n :=
  ⟨sq.tells vs' hw hc c hf (by rw [hd]; exact z.eq) fun a b c => (k a b c).run⟩
theorem sq.op (hw : wantedA ops o (frameV vs) = true) (hok : okOper P.globals.size o = true) (q : Does P o (evalV vs) h n S R)
    (k : ∀ v h2 n2, R v h2 n2 → SubBut h h2 S → n ≤ n2 → Free h2 n2 → SW P ops Q rest (setV vs o.dst v) h2 n2) : SW P ops Q (o :: rest) vs h n :=
  ⟨sq.does _ hw hok q (fun _ => rfl) fun a b c d e f g => (k a b c d e f g).run⟩
theorem sq.k (hw : wantedA ops o (frameV vs) = true) (hc : CallsF P o (evalV vs) f xs) (c : Makes P f xs h n S R)
    (k : ∀ v h2 n2, R v h2 n2 → SubBut h h2 S → n ≤ n2 → Free h2 n2 → SW P ops Q rest (setV vs o.dst v) h2 n2) : SW P ops Q (o :: rest) vs h n :=
  ⟨sq.call _ hw hc c (fun _ => rfl) fun a b c d e f g => (k a b c d e f g).run⟩
theorem sq.w [z : SetL vs d v vs'] (k : SW P ops Q rest vs' h n) : SW P ops Q rest (setV vs (some d) v) h n := by
  rw [show setV vs (some d) v = vs' from z.eq]; exact k
theorem sq.w0 (k : SW P ops Q rest vs h n) : SW P ops Q rest (setV vs none v) h n := k
theorem at_arr {l : List Oper} {i : Nat} {o : Oper} (w : l[i]? = some o) : l.toArray[i]? = some o := by rw [List.getElem?_toArray]; exact w
theorem dq.e (q : Q .normal (frameV vs) h n) : DV P ops Q S [] vs h n := ⟨fun _ _ => q⟩
theorem dq.c {v : Value} (ho : l[i]? = some o) (hk : kindOf P o = 1) (hw : wantedA l.toArray o (frameV vs) = true) (hok : okOper P.globals.size o = true) (hv : calmE P o (evalV vs) h = some v) (hd : o.dst = some d) [z : SetL vs d v vs']
    (k : DV P l.toArray Q S plan vs' h n) : DV P l.toArray Q S (i :: plan) vs h n := ⟨dq.pure vs' (at_arr ho) hk hw hok hv (by rw [hd]; exact z.eq) k.run⟩
theorem dq.g {v : Value} (ho : l[i]? = some o) (hk : (kindOf P o != 0) = true) (hw : wantedA l.toArray o (frameV vs) = true) (hok : okOper P.globals.size o = true) (hv : calmE P o (evalV vs) h = some v) (hd : o.dst = some d) [z : SetL vs d v vs']
    (k : DV P l.toArray Q [] plan vs' h n) : DV P l.toArray Q [] (i :: plan) vs h n := ⟨dq.get vs' (at_arr ho) hk hw hok hv (by rw [hd]; exact z.eq) k.run⟩
theorem dq.s (ho : l[i]? = some o) (hw : wantedA l.toArray o (frameV vs) = false) (hd : o.dst = some d) [z : SetL vs d undef vs'] (k : DV P l.toArray Q S plan vs' h n) : DV P l.toArray Q S (i :: plan) vs h n :=
  ⟨dq.skip vs' (at_arr ho) hw (by rw [hd]; exact z.eq) k.run⟩
theorem dq.s0 (ho : l[i]? = some o) (hw : wantedA l.toArray o (frameV vs) = false) (hd : o.dst = none) (k : DV P l.toArray Q S plan vs h n) : DV P l.toArray Q S (i :: plan) vs h n :=
  ⟨dq.skip vs (at_arr ho) hw (by rw [hd]; rfl) k.run⟩
theorem dq.t {v : Value} (ho : l[i]? = some o) (hk : kindOf P o = 0) (hw : wantedA l.toArray o (frameV vs) = true) (hc : CallsF P o (evalV vs) f xs) (c : Free h n → Tells P f xs h n v) (hf : Free h n) (hd : o.dst = some d) [z : SetL vs d v vs']
    (k : ∀ n2, n ≤ n2 → Free h n2 → DV P l.toArray Q S plan vs' h n2) : DV P l.toArray Q S (i :: plan) vs h n :=
  ⟨dq.tells vs' (at_arr ho) hk hw hc c hf (by rw [hd]; exact z.eq) fun a b c => (k a b c).run⟩
theorem dq.op (ho : l[i]? = some o) (hk : kindOf P o = 0) (hw : wantedA l.toArray o (frameV vs) = true) (hok : okOper P.globals.size o = true) (q : Does P o (evalV vs) h n S' R) (hS : ∀ b ∈ S', b ∈ S)
    (k : ∀ v h2 n2, R v h2 n2 → SubBut h h2 S' → n ≤ n2 → Free h2 n2 → DV P l.toArray Q S plan (setV vs o.dst v) h2 n2) : DV P l.toArray Q S (i :: plan) vs h n :=
  ⟨dq.does _ (at_arr ho) hk hw hok q hS (fun _ => rfl) fun a b c d e f g => (k a b c d e f g).run⟩
theorem dq.k (ho : l[i]? = some o) (hk : kindOf P o = 0) (hw : wantedA l.toArray o (frameV vs) = true) (hc : CallsF P o (evalV vs) f xs) (c : Makes P f xs h n S' R) (hS : ∀ b ∈ S', b ∈ S)
    (k : ∀ v h2 n2, R v h2 n2 → SubBut h h2 S' → n ≤ n2 → Free h2 n2 → DV P l.toArray Q S plan (setV vs o.dst v) h2 n2) : DV P l.toArray Q S (i :: plan) vs h n :=
  ⟨dq.call _ (at_arr ho) hk hw hc c hS (fun _ => rfl) fun a b c d e f g => (k a b c d e f g).run⟩
theorem dq.w [z : SetL vs d v vs'] (k : DV P ops Q S plan vs' h n) : DV P ops Q S plan (setV vs (some d) v) h n := by
  rw [show setV vs (some d) v = vs' from z.eq]; exact k
theorem dq.w0 (k : DV P ops Q S plan vs h n) : DV P ops Q S plan (setV vs none v) h n := k
end
end Go.Abs
/- '==' of two structs of plain cells, field by field. -/
namespace Go.Abs
open Go
theorem pureRun_bind {α β : Type} {P : Program} : ∀ (s : Sem α) (f : α → Sem β), pureRun P (s >>= f) = (pureRun P s).bind fun a => pureRun P (f a) := by
  intro s f
  show pureRun P (Sem.bind s f) = _
  induction s with
  | pure a => rfl
  | program k ih => exact ih P
  | mark m k ih => exact ih
  | _ => rfl
theorem pureRun_pure {α : Type} {P : Program} (a : α) : pureRun P (pure a : Sem α) = some a := rfl
theorem pureRun_underlying {P : Program} {t : TypeId} {d : TypeDesc} (h : P.underlying t = some d) : pureRun P (underlying t) = some d := by
  unfold underlying
  rw [pureRun_bind]
  show pureRun P (match P.underlying t with | some d => pure d | none => stuck "no such type") = _
  rw [h]
  rfl
/-- Two plain cells. -/
def eqCell : TypeDesc → Value → Value → Option Bool
  | .string, .string a, .string b => some (eqS a b)
  | .int _, .int k a, .int k' b => if k = k' then some (decide (a = b)) else none
  | .bool, .bool a, .bool b => some (a == b)
  | _, _, _ => none
def eqFields (P : Program) : List Field → Array Value → Array Value → Option Bool
  | [], _, _ => some true
  | f :: r, xs, ys =>
    if f.name != "_" && isAggE P f.type == some false then
      match P.underlying f.type, xs[f.offset]?, ys[f.offset]? with
      | some d, some x, some y => match eqCell d x y, eqFields P r xs ys with
        | some a, some b => some (a && b)
        | _, _ => none
      | _, _, _ => none
    else none
theorem eqCell_run {P : Program} {t : TypeId} {d : TypeDesc} (hu : P.underlying t = some d) {x y : Value} {b : Bool} (e : eqCell d x y = some b) (k : Nat) : pureRun P (Op.equalIn (k + 1) t x y) = some b := by
  unfold Op.equalIn
  rw [pureRun_bind, pureRun_underlying hu]
  simp only [Option.bind_some]
  unfold eqCell at e
  split at e
  · cases e
    rename_i a c
    show some (a == c) = some (eqS a c)
    refine congrArg some ?_
    rw [Bool.eq_iff_iff, eqS_of]
    show (a.data == c.data) = true ↔ a = c
    rw [beq_iff_eq]
    exact ⟨fun h => ByteArray.ext h, fun h => by rw [h]⟩
  · split at e
    · rename_i a k' c hk
      cases e
      subst hk
      simp only [if_true]
      show some (a == c) = some (decide (a = c))
      exact congrArg some (by rw [Bool.eq_iff_iff]; simp)
    · cases e
  · cases e
    rfl
  · cases e
theorem pureRun_part {P : Program} {t : TypeId} (ha : isAggE P t = some false) {cs : Array Value} {o : Nat} {x : Value} (hx : cs[o]? = some x) : pureRun P (part t cs o) = some x := by
  have h : pureRun P (isAgg t) = some false := by
    unfold isAgg
    rw [pureRun_bind]
    unfold isAggE at ha
    cases hu : P.underlying t with
    | none => rw [hu] at ha; cases ha
    | some d =>
      rw [pureRun_underlying hu]
      rw [hu] at ha
      simp only [Option.bind_some]
      cases d <;> first | rfl | (simp at ha)
  unfold part
  rw [pureRun_bind, h]
  simp only [Option.bind_some, Bool.false_eq_true, if_false, hx]
  rfl
theorem eqFields_run {P : Program} {k : Nat} {xs ys : Array Value} : ∀ (fs : List Field) (b : Bool), eqFields P fs xs ys = some b →
    pureRun P (forIn fs ((none : Option Bool), ()) fun f __s =>
                if f.name ≠ "_" then do
                  let __do_lift ← part f.type xs f.offset
                  let __do_lift_1 ← part f.type ys f.offset
                  let __do_lift ← Op.equalIn (k + 1) f.type __do_lift __do_lift_1
                  if (!__do_lift) = true then pure (ForInStep.done (some false, ()))
                    else pure (ForInStep.yield (none, ()))
                else pure (ForInStep.yield (none, ()))) = some (if b then (none, ()) else (some false, ())) := by
  intro fs
  induction fs with
  | nil => intro b e; simp only [eqFields, Option.some.injEq] at e; subst e; rfl
  | cons f r ih =>
    intro b e
    unfold eqFields at e
    split at e
    · rename_i hc
      simp only [Bool.and_eq_true, bne_iff_ne, ne_eq, beq_iff_eq] at hc
      split at e
      · rename_i d x y hd hx hy
        split at e
        · rename_i a b' ha hb
          cases e
          rw [List.forIn_cons, pureRun_bind]
          simp only [ne_eq, hc.1, not_false_eq_true, if_true]
          rw [pureRun_bind, pureRun_part hc.2 hx]
          simp only [Option.bind_some]
          rw [pureRun_bind, pureRun_part hc.2 hy]
          simp only [Option.bind_some]
          rw [pureRun_bind, eqCell_run hd ha]
          simp only [Option.bind_some]
          cases a with
          | false => rfl
          | true =>
            simp only [Bool.not_true, Bool.false_eq_true, if_false, pureRun_pure, Option.bind_some, Bool.true_and]
            exact ih b' hb
        · cases e
      · cases e
    · cases e
theorem eqE_struct {P : Program} {op : BinOp} {t : TypeId} {fs : Array Field} {xs ys : Array Value} {b cx cy : Bool} (hu : P.underlying t = some (.struct fs)) (hs : P.stoodInHeld t = false) (hg : P.eqGuardType P.depth t = false)
    (hf : flat (.agg xs) = true) (hf' : flat (.agg ys) = true) (e : eqFields P fs.toList xs ys = some b) : eqE P op t cx cy (.agg xs) (.agg ys) = some b := by
  have h1 : eqNilE P t (.agg xs) (.agg ys) = none := by unfold eqNilE; rw [hu]
  unfold eqE
  rw [h1]
  simp only
  unfold eqFlatE
  rw [hf, hf']
  simp only [Bool.and_self, if_true]
  have hguard : pureRun P (eqGuard op t (if cx then .const (.agg xs) else .tmp 0) (if cy then .const (.agg ys) else .tmp 0) (.agg xs) (.agg ys)) = some () := by
    unfold eqGuard
    have key : pureRun P (do
        let __do_lift ← program
        let __do_lift_1 ← program
        if (!__do_lift.eqGuardType __do_lift_1.depth t) = true then pure ()
          else do
            let __do_lift ← Op.eqGuardIn Op.maxDepth t (Value.agg xs) (Value.agg ys)
            if __do_lift = true then
                unsupported
                  (Unsupported.noEntry
                    "binop/eql: two nil values of an interface type with methods, in a part of a struct or an array")
              else pure () : Sem Unit) = some () := by
      rw [pureRun_bind]
      show (Option.bind (some P) _) = _
      simp only [Option.bind_some]
      rw [pureRun_bind]
      show (Option.bind (some P) _) = _
      simp only [Option.bind_some, hg, Bool.not_false, if_true]
      rfl
    cases op <;> first | rfl | exact key
  have hrun : pureRun P (Op.equal t (.agg xs) (.agg ys)) = some b := by
    unfold Op.equal
    obtain ⟨k, hk⟩ : ∃ k, Op.maxDepth = k + 2 := ⟨9998, rfl⟩
    rw [hk]
    unfold Op.equalIn
    rw [pureRun_bind, pureRun_underlying hu]
    simp only [Option.bind_some]
    rw [pureRun_bind]
    show (Option.bind (some P) _) = _
    simp only [Option.bind_some, hs, Bool.false_eq_true, if_false]
    rw [pureRun_bind, ← Array.forIn_toList, eqFields_run fs.toList b e]
    cases b <;> rfl
  rw [pureRun_bind, hguard]
  simp only [Option.bind_some, hrun]
theorem binE_neq {P : Program} {t : TypeId} {fs : Array Field} {xs ys : Array Value} {b cx cy : Bool} (hu : P.underlying t = some (.struct fs)) (hs : P.stoodInHeld t = false) (hg : P.eqGuardType P.depth t = false)
    (hf : flat (.agg xs) = true) (hf' : flat (.agg ys) = true) (e : eqFields P fs.toList xs ys = some b) : binE P .neq t cx cy (.agg xs) (.agg ys) = some (.bool (!b)) := by
  show (eqE P .neq t cx cy (.agg xs) (.agg ys)).map (fun b => Value.bool (!b)) = _
  rw [eqE_struct hu hs hg hf hf' e]
  rfl
end Go.Abs
