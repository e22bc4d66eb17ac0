/- Calls that read alone, in whatever memory; tables of such calls. -/
import Derived.Test.YtkpjfibpaojelaaGreatDoorAbs24
namespace Go.Abs
open Go

/-- A heap of which all is flat, owned by nobody, and lies below G. -/
def RO (G : Nat) (h : Heap) : Prop := ∀ b o, h.get b = some o → b < G ∧ ∃ cs ci, o = .cells cs false ci ∧ (cs.all flat) = true

theorem ACall.frame {P : Program} {f : FuncId} {args : List Value} {h0 h : Heap} {n : Nat} {v : Value} (ro : RO P.globals.size h0) (hsub : h0.sub h) (hargs : (args.all flat) = true) (hv : flat v = true)
    (c : ACall P f args.toArray h0 P.globals.size fun r _ _ => r = .ret v) : ACall P f args.toArray h n fun r h' n' => r = .ret v ∧ h' = h ∧ n' = n := by
  intro μ args' w ha hr
  have r0 : Rel P (fun b => if b < P.globals.size then μ b else none) h0 P.globals.size w := by
    refine ⟨?_, ?_, ?_, ?_⟩
    · intro b o hb
      obtain ⟨hlt, cs, ci, rfl, hf⟩ := ro b o hb
      obtain ⟨m, x, f1, f2, f3⟩ := hr.obj b _ (hsub b _ hb)
      refine ⟨m, x, by rw [if_pos hlt]; exact f1, f2, ?_⟩
      cases x with
      | cells c el fr =>
        obtain ⟨g1, g2, g3, g4⟩ := f3
        refine ⟨g1, g2, fun i a hi => ?_, g4⟩
        obtain ⟨a', q1, q2⟩ := g3 i a hi
        have hfa : flat a = true := List.all_eq_true.1 hf a (List.mem_of_getElem? hi)
        rw [q2.flat_eq hfa] at q1
        exact ⟨a, q1, .flat_self hfa⟩
      | _ => exact f3.elim
    · intro b b' o o' m m' hb he
      obtain ⟨_, cs, ci, rfl, _⟩ := ro b o hb
      cases he
    · intro b hb
      simp only [Nat.not_lt.2 hb, if_false]
    · intro g hg
      obtain ⟨m, q⟩ := hr.glob g hg
      exact ⟨m, by rw [if_pos hg]; exact q.1, q.2⟩
  have a0 : ARel (fun b => if b < P.globals.size then μ b else none) args.toArray args' := by
    refine ⟨ha.1, fun i x y hx hy => ?_⟩
    have hxm : x ∈ args := by simp only [List.getElem?_toArray] at hx; exact List.mem_of_getElem? hx
    have hfx := List.all_eq_true.1 hargs x hxm
    rw [(ha.2 i x y hx hy).flat_eq hfx]
    exact .flat_self hfx
  refine (c _ args' w a0 r0).mono ?_
  rintro e w' ⟨μ', h', n', r, he, hr', hg, hn, rfl⟩
  cases he with
  | ret hvv =>
    rw [hvv.flat_eq hv]
    have hk : ∀ c, c < w.heap.size → w'.heap[c]? = w.heap[c]? := fun c hc => hg.kept c hc (fun b o m hb hex => by
      obtain ⟨_, cs, ci, rfl, _⟩ := ro b o hb
      cases hex)
    refine ⟨μ, h, n, .ret v, .ret (.flat_self hv), ⟨?_, hr.sep, hr.bound, hr.glob⟩, ⟨μ.le_refl, hg.size, hg.os, hg.tape, hg.output, fun c hc _ => hk c hc, fun b' o' m' a b c _ => ⟨b', o', m', a, b, c, rfl⟩⟩, Nat.le_refl _, rfl, rfl, rfl⟩
    intro b o hb
    obtain ⟨m, x, f1, f2, f3⟩ := hr.obj b o hb
    exact ⟨m, x, f1, by rw [hk _ (Array.getElem?_eq_some_iff.1 f2).1]; exact f2, f3⟩

/-! Rows of cells that are known. -/
def natsEq : List Nat → List Value → IntKind → Bool
  | [], [], _ => true
  | a :: x, .int k b :: y, j => k == j && b == (a : Int) && natsEq x y j
  | _, _, _ => false

/-- A program's variables, read alone: which, of which kind, what they hold. -/
abbrev Laid := List (Nat × IntKind × List Nat)

def rowOf (k : IntKind) (l : List Nat) : List Value := l.map fun (n : Nat) => .int k n

def laidHeap (c : Nat → CI) : Laid → Heap
  | [] => .nil
  | (g, k, l) :: r => (laidHeap c r).set g (.cells (rowOf k l) false (c g))

def based (h : Heap) (L : Laid) : Bool := L.all fun x => match h.get x.1 with
  | some (.cells cs false _) => natsEq x.2.2 cs x.2.1
  | _ => false

theorem natsEq_eq {k : IntKind} : ∀ {l : List Nat} {cs : List Value}, natsEq l cs k = true → cs = rowOf k l := by
  intro l
  induction l with
  | nil => intro cs h; cases cs with
    | nil => rfl
    | cons => simp [natsEq] at h
  | cons a l ih =>
    intro cs h
    cases cs with
    | nil => simp [natsEq] at h
    | cons v cs =>
      cases v <;> simp [natsEq] at h
      obtain ⟨⟨rfl, rfl⟩, h⟩ := h
      simp only [rowOf, List.map_cons, ih h]

theorem rowOf_flat (k : IntKind) (l : List Nat) : ((rowOf k l).all flat) = true := by
  rw [List.all_eq_true]
  intro y hy
  obtain ⟨a, _, rfl⟩ := List.mem_map.1 hy
  rfl

theorem laidHeap_ro {G : Nat} (c : Nat → CI) : ∀ {L : Laid}, (L.all fun x => decide (x.1 < G)) = true → RO G (laidHeap c L) := by
  intro L
  induction L with
  | nil => intro _ b o hb; cases hb
  | cons x L ih =>
    intro hl b o hb
    simp only [List.all_cons, Bool.and_eq_true, decide_eq_true_eq] at hl
    obtain ⟨g, k, l⟩ := x
    rw [laidHeap, Trie.get_set] at hb
    split at hb
    · rename_i e
      subst e
      cases hb
      exact ⟨hl.1, _, _, rfl, rowOf_flat k l⟩
    · exact ih hl.2 b o hb

theorem laidHeap_sub {h : Heap} {L : Laid} (e : based h L = true) : ∃ c, (laidHeap c L).sub h := by
  refine ⟨fun g => match h.get g with | some (.cells _ _ ci) => ci | _ => default, ?_⟩
  induction L with
  | nil => intro b o hb; cases hb
  | cons x L ih =>
    obtain ⟨g, k, l⟩ := x
    simp only [based, List.all_cons, Bool.and_eq_true] at e
    intro b o hb
    rw [laidHeap, Trie.get_set] at hb
    split at hb
    · rename_i eb
      subst eb
      have h1 := e.1
      split at h1
      · rename_i cs ci hg
        rw [natsEq_eq h1] at hg
        cases hb
        rw [hg]
      · cases h1
    · exact ih e.2 b o hb

/-- Calls of which it is known what they return: the function, the arguments, the value. -/
abbrev Tab := List (FuncId × List Value × Value)

def argsEq : List Value → List Value → Bool := allEq (valEq 20)

def findTab (f : FuncId) (args : List Value) : Tab → Option Value
  | [] => none
  | (g, as, v) :: r => if g = f then (if argsEq as args then some v else findTab f args r) else findTab f args r

def tabOv (L : Laid) (T : Tab) : Ov := fun f => some fun args h n =>
  match findTab f args T with
  | some v => if based h L then some (.ret v, h, n) else none
  | none => none

def TabOk (P : Program) (L : Laid) (T : Tab) : Prop := ∀ x ∈ T, (x.2.1.all flat) = true ∧ flat x.2.2 = true ∧ ∀ c, ACall P x.1 x.2.1.toArray (laidHeap c L) P.globals.size fun r _ _ => r = .ret x.2.2

theorem findTab_mem {f : FuncId} {args : List Value} : ∀ {T : Tab} {v : Value}, findTab f args T = some v → (f, args, v) ∈ T := by
  intro T
  induction T with
  | nil => intro v e; cases e
  | cons x T ih =>
    obtain ⟨g, as, v0⟩ := x
    intro v e
    simp only [findTab] at e
    split at e
    · rename_i hg
      subst hg
      split at e
      · rename_i ha
        cases e
        have := allEq_eq (valEq_eq 20) ha
        subst this
        exact List.mem_cons_self ..
      · exact List.mem_cons_of_mem _ (ih e)
    · exact List.mem_cons_of_mem _ (ih e)

theorem tabOv_ok {P : Program} {L : Laid} {T : Tab} (hL : (L.all fun x => decide (x.1 < P.globals.size)) = true) (hT : TabOk P L T) : OvOk P (tabOv L T) := by
  intro f g hg f' args h n r h' n' e
  simp only [tabOv, Option.some.injEq] at hg
  subst hg
  simp only at e
  split at e
  · rename_i hff
    subst hff
    split at e
    · rename_i v hv
      split at e
      · rename_i hb
        cases e
        obtain ⟨t1, t2, t3⟩ := hT _ (findTab_mem hv)
        obtain ⟨c, hs⟩ := laidHeap_sub hb
        exact ACall.frame (laidHeap_ro c hL) hs t1 t2 (t3 c)
      · cases e
    · cases e
  · cases e

theorem TabOk.nil {P : Program} {L : Laid} : TabOk P L [] := fun _ h => by cases h
theorem TabOk.append {P : Program} {L : Laid} {T T' : Tab} (a : TabOk P L T) (b : TabOk P L T') : TabOk P L (T ++ T') := fun x hx => (List.mem_append.1 hx).elim (a x) (b x)

/-- What is asked of a table, that the kernel runs. -/
def entryB (x : Option (AEnd × Heap × Nat)) (v : Value) : Bool := match x with
  | some (.ret u, _, _) => valEq 20 u v
  | _ => false

def tabB (P : Program) (plans : Nat → Nat → Option (List Nat)) (ov : Ov) (h : Heap) (T : Tab) : Bool :=
  T.all fun x => x.2.1.all flat && flat x.2.2 && entryB (evalCall P plans ov 100000 60 x.1 x.2.1 h P.globals.size) x.2.2

theorem TabOk.of_run {P : Program} (ok : POk P) {plans : Nat → Nat → Option (List Nat)} (hp : PlansOk P plans) {L : Laid} (hL : (L.all fun x => decide (x.1 < P.globals.size)) = true) {T T' : Tab} (hT : TabOk P L T)
    (h : ∀ c, tabB P plans (tabOv L T) (laidHeap c L) T' = true) : TabOk P L T' := by
  intro x hx
  have key : ∀ c, _ := fun c => List.all_eq_true.1 (h c) x hx
  simp only [Bool.and_eq_true] at key
  refine ⟨(key fun _ => default).1.1, (key fun _ => default).1.2, fun c => ?_⟩
  have := (key c).2
  unfold entryB at this
  split at this
  · rename_i u h' n' e
    have he := evalCall_sound ok hp (tabOv_ok hL hT) 60 _ _ _ _ _ _ _ e
    refine he.mono ?_
    rintro r h1 n1 _ _ ⟨rfl, rfl, rfl⟩
    exact ⟨_, Heap.sub_refl _, by rw [valEq_eq _ _ _ this]⟩
  · cases this

/-- A program's facts, and its plans', in one run. -/
def progB (P : Program) (plans : Nat → Nat → Option (List Nat)) : Bool :=
  P.follows .mixedOrders && P.funcs.toList.all (fun fn => !(fn.name == "runtime.NumGoroutine")) &&
  (P.funcs.toList.zipIdx).all fun x => match x.1.body with
    | some c => (drawn c).all (planFits P (plans x.2))
    | none => true

theorem progB_ok {P : Program} {plans : Nat → Nat → Option (List Nat)} (h : progB P plans = true) : POk P ∧ PlansOk P plans := by
  simp only [progB, Bool.and_eq_true] at h
  obtain ⟨⟨h1, h2⟩, h3⟩ := h
  refine ⟨⟨h1, fun f fn hf => ?_⟩, fun f fn c hf hb r hr => ?_⟩
  · have := List.all_eq_true.1 h2 fn (by rw [Array.mem_toList_iff]; exact Array.mem_of_getElem? hf)
    simpa using this
  · have hm : (fn, f) ∈ P.funcs.toList.zipIdx := by
      rw [List.mem_zipIdx_iff_getElem?]
      simpa using hf
    have := List.all_eq_true.1 h3 _ hm
    rw [hb] at this
    exact List.all_eq_true.1 this r hr
end Go.Abs
