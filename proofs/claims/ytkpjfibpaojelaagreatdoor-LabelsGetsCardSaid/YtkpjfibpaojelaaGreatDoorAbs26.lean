/- From a row's premises to the abstract side, and back. -/
import Derived.Test.YtkpjfibpaojelaaGreatDoorAbs25
import Derived.ProofKit
import Derived.LaidMore
import Derived.Lay
import Derived.Stop.Joined
import Derived.Carry
import Derived.Below
import Derived.Lib.LaidU8
namespace Go.Abs
open Go Go.RowKit

/-! Behind the call: what was there is as it was. -/
theorem trodAll_below {H : Type} {enc : TypeId × Value → H} {P : Program} (hl : laidOutB P = true) {W W' : World} (hb : Below W.heap.size W W') : ∀ {ts : List TypeId} {vs : List Value} {ds : List (DataW H)} {ps : List MemPlace},
    (ts.all fun t => P.readableRec t && decide (t < P.types.size)) = true → DataW.TrodAll enc P W 0 (fun _ => true) true ts vs ds ps → (∀ x ∈ ps, x.block < W.heap.size) →
    DataW.TrodAll enc P W' 0 (fun b => decide (b < W.heap.size)) true ts vs ds ps := by
  intro ts
  induction ts with
  | nil =>
    intro vs ds ps _ h _
    cases vs <;> cases ds <;> first | exact h | exact h.elim
  | cons t ts ih =>
    intro vs ds ps ht h hlt
    simp only [List.all_cons, Bool.and_eq_true, decide_eq_true_eq] at ht
    cases vs with
    | nil => exact h.elim
    | cons v vs =>
      cases ds with
      | nil => exact h.elim
      | cons d ds =>
        obtain ⟨p, q, h1, h2, rfl⟩ := h
        exact ⟨p, q, Below.trod hl ht.1.1 ht.1.2 h1 hb (fun x hx => hlt x (List.mem_append_left _ hx)), ih ht.2 h2 (fun x hx => hlt x (List.mem_append_right _ hx)), rfl⟩

theorem post_below {H : Type} {enc : TypeId × Value → H} {P : Program} {f : Func} {s : ChangeSpec} {fresh handsOn : Bool} {W W' : World} {args : Array Value} {ds gs : List (DataW H)} {before : List MemPlace} {tb : TypeId}
    (hl : laidOutB P = true) (hW : DataW.Whole enc P f.params.toList s.vars false W args.toList ds gs before) (hvars : s.vars = [])
    (hread : (f.params.toList.all fun t => P.readableRec t && decide (t < P.types.size)) = true) (hres : f.resultTypes = #[tb]) (htb : P.underlying tb = some .bool)
    (hs : gs = [] → s.fn H (ds ++ gs) = { results := [.lit (.bool true)], args := ds }) (hb : Below W.heap.size W W') :
    s.post enc P f false fresh handsOn false W args (.bool true) W' := by
  have hW' := hW
  obtain ⟨p, q, hA, hV, rfl, hz, hn⟩ := hW
  have hg : gs = [] ∧ q = [] := by
    rw [hvars] at hV
    cases gs with
    | nil => exact ⟨rfl, hV⟩
    | cons g r => exact hV.elim
  obtain ⟨rfl, rfl⟩ := hg
  have e := hs rfl
  refine ⟨ds, [], p ++ [], [], p, [], hW', ?_, ?_, ?_, ?_, fun h => by cases h⟩
  · rw [e, hres]
    exact ChangeShapes.trodAll_mk1 (RowKit.shut_bool htb true)
  · rw [e]
    exact trodAll_below hl hb hread hA (fun x hx => hA.lt x hx)
  · rw [e, hvars]; rfl
  · exact hb.frame _

/-! Ahead of the call. -/
theorem Rel.start {P : Program} {μ : Mu} {h : Heap} {n : Nat} {W : World} (hobj : ∀ b o, h.get b = some o → o.excl = false ∧ ∃ m x, μ b = some m ∧ W.heap[m.blk]? = some x ∧ ORel μ o x m) (bound : ∀ b, n ≤ b → μ b = none)
    (glob : ∀ g, g < P.globals.size → ∃ m, μ g = some m ∧ m.blk = g ∧ m.off = 0) : Rel P μ h n W :=
  ⟨fun b o e => (hobj b o e).2, (fun b b' o o' m m' e1 e2 => by rw [(hobj b o e1).1] at e2; cases e2), bound, glob⟩

theorem Rel.addRO {P : Program} {μ : Mu} {h : Heap} {n : Nat} {W : World} (r : Rel P μ h n W) (ro : ∀ b o, h.get b = some o → o.excl = false) {o : AObj} {x : Obj} {m : Im} (ho : o.excl = false) (hx : W.heap[m.blk]? = some x) (hor : ORel (μ.set n m) o x m) :
    Rel P (μ.set n m) (h.set n o) (n + 1) W ∧ ∀ b o', (h.set n o).get b = some o' → o'.excl = false := by
  have hle : μ.le (μ.set n m) := Mu.le_set (r.bound n (Nat.le_refl _))
  have hro : ∀ b o', (h.set n o).get b = some o' → o'.excl = false := by
    intro b o' e
    rw [Trie.get_set] at e
    split at e
    · cases e; exact ho
    · exact ro b o' e
  refine ⟨Rel.start (fun b o' e => ⟨hro b o' e, ?_⟩) ?_ ?_, hro⟩
  · rw [Trie.get_set] at e
    split at e
    · rename_i hb
      subst hb
      cases e
      exact ⟨m, x, Mu.set_same _ _ _, hx, hor⟩
    · rename_i hb
      obtain ⟨m1, x1, q1, q2, q3⟩ := r.obj b o' e
      exact ⟨m1, x1, by rw [Mu.set_ne _ _ hb]; exact q1, q2, q3.mono hle⟩
  · intro b hb
    rw [Mu.set_ne _ _ (by omega)]
    exact r.bound b (by omega)
  · intro g hg
    obtain ⟨m1, q⟩ := r.glob g hg
    have : g ≠ n := by have := r.globs; omega
    exact ⟨m1, by rw [Mu.set_ne _ _ this]; exact q.1, q.2⟩

theorem calls_of_acall {P : Program} {f : FuncId} {args args' : Array Value} {μ : Mu} {h : Heap} {n : Nat} {W : World} {v : Value} (ro : ∀ b o, h.get b = some o → o.excl = false) (hr : Rel P μ h n W) (ha : ARel μ args args')
    (hv : flat v = true) (c : ACall P f args h n fun r _ _ => r = .ret v) : Calls P f args' W fun e W' => e = .returned v ∧ Below W.heap.size W W' := by
  refine (c μ args' W ha hr).mono ?_
  rintro e w' ⟨μ', h', n', r, he, hr', hg, hn, rfl⟩
  cases he with
  | ret hvv =>
    rw [hvv.flat_eq hv]
    exact ⟨rfl, hg.os, hg.tape, hg.output, hg.size, fun k hk => hg.kept k hk fun b o m hb hex _ => by rw [ro b o hb] at hex; cases hex⟩

/-- The program's variables hold what they hold. -/
def LaidW (W : World) (L : Laid) : Prop := ∀ x ∈ L, ∃ el fr, W.heap[x.1]? = some (.cells (rowOf x.2.1 x.2.2).toArray el fr)

def szOf (W : World) (b : Nat) : Nat := match W.heap[b]? with
  | some (.cells c _ _) => c.size
  | _ => 0

def mu0 (P : Program) (W : World) : Mu := fun b => if b < P.globals.size then some ⟨b, 0, szOf W b, 0⟩ else none

theorem laidHeap_get (c : Nat → CI) : ∀ {L : Laid} {b : Nat} {o : AObj}, (laidHeap c L).get b = some o → ∃ k l, (b, k, l) ∈ L ∧ o = .cells (rowOf k l) false (c b) := by
  intro L
  induction L with
  | nil => intro b o e; cases e
  | cons x L ih =>
    obtain ⟨g, k, l⟩ := x
    intro b o e
    rw [laidHeap, Trie.get_set] at e
    split at e
    · rename_i hb
      subst hb
      cases e
      exact ⟨k, l, List.mem_cons_self .., rfl⟩
    · obtain ⟨k', l', q1, q2⟩ := ih e
      exact ⟨k', l', List.mem_cons_of_mem _ q1, q2⟩

theorem LaidW.rel {P : Program} {W : World} {L : Laid} (hW : LaidW W L) (hL : (L.all fun x => decide (x.1 < P.globals.size)) = true) : ∃ c, Rel P (mu0 P W) (laidHeap c L) P.globals.size W ∧ ∀ b o, (laidHeap c L).get b = some o → o.excl = false := by
  refine ⟨fun b => match W.heap[b]? with | some (.cells _ el _) => ⟨el, 0, true⟩ | _ => default, ?_, ?_⟩
  · refine Rel.start ?_ ?_ ?_
    · intro b o e
      obtain ⟨k, l, hm, rfl⟩ := laidHeap_get _ e
      obtain ⟨el, fr, hb⟩ := hW _ hm
      have hlt := List.all_eq_true.1 hL _ hm
      simp only [decide_eq_true_eq] at hlt
      simp only at hb
      refine ⟨rfl, ⟨b, 0, szOf W b, 0⟩, _, by simp [mu0, hlt], hb, ?_⟩
      simp only [hb, szOf, ORel]
      refine ⟨trivial, by simp, fun i v hi => ⟨v, by simpa using hi, .flat_self (List.all_eq_true.1 (rowOf_flat k l) v (List.mem_of_getElem? hi))⟩, by simp, trivial, trivial, by simp⟩
    · intro b hb
      simp [mu0, Nat.not_lt.2 hb]
    · intro g hg
      exact ⟨⟨g, 0, szOf W g, 0⟩, by simp only [mu0, hg, if_true], rfl, rfl⟩
  · intro b o e
    obtain ⟨k, l, hm, rfl⟩ := laidHeap_get _ e
    rfl

theorem closed_calls {P : Program} {f : FuncId} {W : World} {L : Laid} (hW : LaidW W L) (hL : (L.all fun x => decide (x.1 < P.globals.size)) = true) (h : ∀ c, ACall P f #[] (laidHeap c L) P.globals.size fun r _ _ => r = .ret (.bool true)) :
    Calls P f #[] W fun e W' => e = .returned (.bool true) ∧ Below W.heap.size W W' := by
  obtain ⟨c, hr, ro⟩ := hW.rel hL
  exact calls_of_acall ro hr ⟨rfl, fun i x y hx => by simp at hx⟩ rfl (h c)

/-! From a reading to cells. -/
theorem heap_of_var {P : Program} {W : World} {n : String} {g : Nat} {cs : Array Value} (hg : P.globalNamed n = some g) (h : W.var? P n = some cs) : ∃ el fr, W.heap[g]? = some (.cells cs el fr) := by
  unfold World.var? at h
  rw [hg] at h
  simp only [Option.bind_some] at h
  split at h
  · rename_i c el fr e
    cases h
    exact ⟨el, fr, e⟩
  · cases h

theorem laid_tab {P : Program} {W : World} {n : String} {g : Nat} {t e : TypeId} {k : IntKind} {zs : List Nat} {m : Nat}
    (hg : P.globalNamed n = some g) (hty : (P.globals[g]?).map (·.type) = some t) (ht : P.underlying t = some (.array m e)) (he : P.underlying e = some (.int k)) (hce : P.cellsOf e = 1) (hct : P.cellsOf t = m)
    (h : Lib.VarReads P W n (Lib.tabData k (zs.map fun (z : Nat) => (z : Int)))) : ∃ el fr, W.heap[g]? = some (.cells (rowOf k zs).toArray el fr) := by
  obtain ⟨g', t', cs, fuel, p, hg', ht', hv, hd⟩ := h
  obtain rfl := Option.some.inj (hg.symm.trans hg')
  obtain rfl := Option.some.inj (hty.symm.trans ht')
  have hcs := Lib.cells_of_tab ht he hce hct hd
  obtain ⟨el, fr, hh⟩ := heap_of_var hg hv
  refine ⟨el, fr, ?_⟩
  rw [hh]
  have : cs = (rowOf k zs).toArray := by
    apply Array.ext'
    rw [hcs]
    simp [rowOf]
  rw [this]

theorem flat_chunks {k : IntKind} (s : Nat) : ∀ (zss : List (List Nat)) (cs : List Value), cs.length = zss.length * s → (∀ zs ∈ zss, zs.length = s) → (∀ i zs, zss[i]? = some zs → (cs.drop (i * s)).take s = rowOf k zs) → cs = rowOf k zss.flatten := by
  intro zss
  induction zss with
  | nil => intro cs hl _ _; have : cs = [] := List.eq_nil_of_length_eq_zero (by simpa using hl); subst this; rfl
  | cons zs zss ih =>
    intro cs hl hs h
    have h0 := h 0 zs rfl
    simp only [Nat.zero_mul, List.drop_zero] at h0
    have h1 := ih (cs.drop s) (by simp only [List.length_drop, hl, List.length_cons, Nat.succ_mul]; omega) (fun z hz => hs z (List.mem_cons_of_mem _ hz)) (fun i z hz => by
      rw [List.drop_drop, Nat.add_comm, ← Nat.succ_mul]
      exact h (i + 1) z (by simpa using hz))
    rw [List.flatten_cons]
    simp only [rowOf, List.map_append] at h0 h1 ⊢
    rw [← h0, ← h1, List.take_append_drop]

theorem laid_structs {P : Program} {W : World} {n : String} {g : Nat} {t e : TypeId} {fs : Array Field} {k : IntKind} {zss : List (List Nat)} {m : Nat}
    (hg : P.globalNamed n = some g) (hty : (P.globals[g]?).map (·.type) = some t) (ht : P.underlying t = some (.array m e)) (he : P.underlying e = some (.struct fs))
    (hf : ∀ (i : Nat) (f : Field), fs[i]? = some f → P.underlying f.type = some (.int k) ∧ f.offset = i ∧ P.cellsOf f.type = 1) (hce : P.cellsOf e = fs.size) (hct : P.cellsOf t = m * fs.size)
    (hm : zss.length = m) (hz : ∀ zs ∈ zss, zs.length = fs.size)
    (h : Lib.VarReads P W n (.agg (zss.map fun zs => .agg (zs.map fun (z : Nat) => .lit (.int k (z : Int)))))) : ∃ el fr, W.heap[g]? = some (.cells (rowOf k zss.flatten).toArray el fr) := by
  obtain ⟨g', t', cs, fuel, p, hg', ht', hv, hd⟩ := h
  obtain rfl := Option.some.inj (hg.symm.trans hg')
  obtain rfl := Option.some.inj (hty.symm.trans ht')
  obtain ⟨el, fr, hh⟩ := heap_of_var hg hv
  refine ⟨el, fr, ?_⟩
  have hlen : cs.toList.length = m * fs.size := by
    cases fuel with
    | zero => simp [DataW.trod] at hd
    | succ fuel =>
      simp only [DataW.trod, ht, hce, hct] at hd
      split at hd
      · rename_i hl
        exact hl
      · cases hd
  have key := flat_chunks (k := k) fs.size zss cs.toList (by rw [hlen, hm]) hz (fun i zs hi => by
    have him : i < m := by rw [← hm]; exact (List.getElem?_eq_some_iff.1 hi).1
    obtain ⟨fuel', d, q, hdi, hel⟩ := Lib.array_elem ht hd i him
    rw [List.getElem?_map, hi] at hdi
    simp only [Option.map_some, Option.some.injEq] at hdi
    subst hdi
    rw [hce] at hel
    have := Lib.ints_of_struct (zs := zs.map fun (z : Nat) => (z : Int)) he hf hce (by simpa [List.map_map, Function.comp_def] using hel)
    rw [this]
    simp [rowOf])
  rw [hh]
  have : cs = (rowOf k zss.flatten).toArray := by
    apply Array.ext'
    rw [key]
  rw [this]
end Go.Abs
