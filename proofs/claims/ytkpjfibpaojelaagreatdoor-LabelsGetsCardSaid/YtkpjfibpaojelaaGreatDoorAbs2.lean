/- The relation between an abstract heap and a world, how it grows, and the abstract calls and codes with their rules. -/
import Derived.Test.YtkpjfibpaojelaaGreatDoorAbs1
namespace Go.Abs
open Go

/-- Of a row of cells: the type of its elements, the size of an element that is appended (0: none is), whether the block holds just these cells. -/
structure CI where
  e : TypeId
  k : Nat := 0
  whole : Bool := true
  deriving Inhabited

inductive AObj where
  | cells (cs : List Value) (own : Bool) (ci : CI)
  | map (es : List (Value × Value))
  | siter (s : ByteArray) (pos : Nat)
  | miter (m : Option Nat) (left : List Nat)
  deriving Inhabited

def AObj.excl : AObj → Bool
  | .cells _ own _ => own
  | _ => true

abbrev Heap := Trie AObj

/-- An abstract object and a block. -/
def ORel (μ : Mu) (o : AObj) (x : Obj) (m : Im) : Prop :=
  match o, x with
  | .cells cs own ci, .cells c el fr =>
    m.sz = c.size ∧ m.off + cs.length ≤ c.size ∧ (∀ (i : Nat) (v : Value), cs[i]? = some v → ∃ v' : Value, c[m.off + i]? = some v' ∧ VRel μ v v') ∧
      (own = true → ∀ i, m.off ≤ i → i < c.size → ¬ (fr.1 ≤ i ∧ i < fr.2)) ∧ m.k = ci.k ∧ el = ci.e ∧ (ci.whole = true → m.off = 0 ∧ c.size = cs.length)
  | .map es, .map es' clock =>
    m.off = 0 ∧ es.length = es'.size ∧ (∀ (i : Nat) (e : Value × Value), es[i]? = some e → ∃ e' : MapEntry, es'[i]? = some e' ∧ VRel μ e.1 e'.key ∧ VRel μ e.2 e'.val) ∧
      (∀ (i : Nat) (e : MapEntry), es'[i]? = some e → e.born < clock) ∧ (∀ (i j : Nat) (e f : MapEntry), i < j → es'[i]? = some e → es'[j]? = some f → e.born < f.born)
  | .siter s pos, .stringIter s' pos' => m.off = 0 ∧ s = s' ∧ pos = pos'
  | .miter none _, .mapIter none _ _ _ => m.off = 0
  | _, _ => False

theorem ORel.mono {μ μ' : Mu} (h : μ.le μ') {o : AObj} {x : Obj} {m : Im} (r : ORel μ o x m) : ORel μ' o x m := by
  unfold ORel at *
  split at r
  · obtain ⟨h1, h2, h3, h4⟩ := r
    exact ⟨h1, h2, fun i v hv => let ⟨v', a, b⟩ := h3 i v hv; ⟨v', a, b.mono h⟩, h4⟩
  · obtain ⟨h1, h2, h3, h4⟩ := r
    exact ⟨h1, h2, fun i v hv => let ⟨v', a, b, c⟩ := h3 i v hv; ⟨v', a, b.mono h, c.mono h⟩, h4⟩
  · exact r
  · exact r
  · exact r.elim

structure Rel (P : Program) (μ : Mu) (h : Heap) (n : Nat) (w : World) : Prop where
  obj : ∀ b o, h.get b = some o → ∃ m x, μ b = some m ∧ w.heap[m.blk]? = some x ∧ ORel μ o x m
  sep : ∀ b b' o o' m m', h.get b = some o → o.excl = true → b ≠ b' → h.get b' = some o' → μ b = some m → μ b' = some m' → m.blk ≠ m'.blk
  bound : ∀ b, n ≤ b → μ b = none
  glob : ∀ g, g < P.globals.size → ∃ m, μ g = some m ∧ m.blk = g ∧ m.off = 0

/-- How a world may turn: only the blocks of what is owned, and new ones. -/
structure Grow (μ : Mu) (h : Heap) (w : World) (μ' : Mu) (h' : Heap) (w' : World) : Prop where
  le : μ.le μ'
  size : w.heap.size ≤ w'.heap.size
  os : w'.os = w.os
  tape : w'.tape = w.tape
  output : w'.output = w.output
  kept : ∀ c, c < w.heap.size → (∀ b o m, h.get b = some o → o.excl = true → μ b = some m → m.blk ≠ c) → w'.heap[c]? = w.heap[c]?
  orig : ∀ b' o' m', h'.get b' = some o' → o'.excl = true → μ' b' = some m' → m'.blk < w.heap.size → ∃ b o m, h.get b = some o ∧ o.excl = true ∧ μ b = some m ∧ m.blk = m'.blk

theorem Grow.refl (μ : Mu) (h : Heap) (w : World) : Grow μ h w μ h w :=
  ⟨μ.le_refl, Nat.le_refl _, rfl, rfl, rfl, fun _ _ _ => rfl, fun b' o' m' a b c _ => ⟨b', o', m', a, b, c, rfl⟩⟩

theorem Grow.trans {μ μ1 μ2 : Mu} {h h1 h2 : Heap} {w w1 w2 : World} (a : Grow μ h w μ1 h1 w1) (b : Grow μ1 h1 w1 μ2 h2 w2) : Grow μ h w μ2 h2 w2 := by
  refine ⟨Mu.le_trans a.le b.le, Nat.le_trans a.size b.size, b.os.trans a.os, b.tape.trans a.tape, b.output.trans a.output, ?_, ?_⟩
  · intro c hc hk
    rw [b.kept c (Nat.lt_of_lt_of_le hc a.size) ?_, a.kept c hc hk]
    intro b' o' m' h1' e1 e2 e3
    obtain ⟨b0, o0, m0, g1, g2, g3, g4⟩ := a.orig b' o' m' h1' e1 e2 (e3 ▸ hc)
    exact hk b0 o0 m0 g1 g2 g3 (g4.trans e3)
  · intro b' o' m' g1 g2 g3 g4
    obtain ⟨b1, o1, m1, e1, e2, e3, e4⟩ := b.orig b' o' m' g1 g2 g3 (Nat.lt_of_lt_of_le g4 a.size)
    obtain ⟨b0, o0, m0, f1, f2, f3, f4⟩ := a.orig b1 o1 m1 e1 e2 e3 (e4 ▸ g4)
    exact ⟨b0, o0, m0, f1, f2, f3, f4.trans e4⟩

/-- A part of a heap. -/
def Heap.sub (h h' : Heap) : Prop := ∀ b o, h.get b = some o → h'.get b = some o
theorem Heap.sub_refl (h : Heap) : h.sub h := fun _ _ e => e
theorem Heap.sub_trans {a b c : Heap} (x : a.sub b) (y : b.sub c) : a.sub c := fun i o e => y i o (x i o e)

theorem Rel.sub {P : Program} {μ : Mu} {h h' : Heap} {n : Nat} {w : World} (r : Rel P μ h n w) (s : h'.sub h) : Rel P μ h' n w :=
  ⟨fun b o e => r.obj b o (s b o e), fun b b' o o' m m' e1 e2 e3 e4 => r.sep b b' o o' m m' (s _ _ e1) e2 e3 (s _ _ e4), r.bound, r.glob⟩

theorem Grow.sub {μ μ' : Mu} {h h' h'' : Heap} {w w' : World} (g : Grow μ h w μ' h' w') (s : h''.sub h') : Grow μ h w μ' h'' w' :=
  ⟨g.le, g.size, g.os, g.tape, g.output, g.kept, fun b' o' m' e1 => g.orig b' o' m' (s _ _ e1)⟩

theorem Rel.later {P : Program} {μ : Mu} {h : Heap} {n n' : Nat} {w : World} (r : Rel P μ h n w) (hn : n ≤ n') : Rel P μ h n' w :=
  ⟨r.obj, r.sep, fun b hb => r.bound b (Nat.le_trans hn hb), r.glob⟩

theorem Rel.below {P : Program} {μ : Mu} {h : Heap} {n : Nat} {w : World} (r : Rel P μ h n w) {b : Nat} (hb : n ≤ b) : h.get b = none := by
  cases e : h.get b with
  | none => rfl
  | some o =>
    obtain ⟨m, x, hm, _⟩ := r.obj b o e
    rw [r.bound b hb] at hm
    cases hm

/-! Frames. -/
structure AAct where
  t : Trie Value
  size : Nat
  defers : List Deferred

def AAct.get (a : AAct) (i : Nat) : Value := (a.t.get i).getD undef

def AAct.put (a : AAct) (dst : Option Tmp) (v : Value) : AAct :=
  match dst with
  | some d => if d < a.size then { a with t := a.t.set d v } else a
  | none => a

def AAct.eval (a : AAct) : Operand → Value
  | .tmp t => a.get t
  | .const v => v
  | .global g => .pointer (some ⟨g, 0, none⟩)
  | .func f => .func (.func f) #[] #[]

inductive TRel (μ : Mu) : Target → Target → Prop
  | fn (f : Fn) {c c' : Array Value} (h : ARel μ c c') : TRel μ (.fn f c) (.fn f c')
  | nil : TRel μ .nil .nil
  | builtin (b : Builtin) (ts : Array TypeId) (t : TypeId) (cs : Array Bool) : TRel μ (.builtin b ts t cs) (.builtin b ts t cs)

structure DRel (μ : Mu) (d d' : Deferred) : Prop where
  target : TRel μ d.target d'.target
  args : ARel μ d.args d'.args

inductive DsRel (μ : Mu) : List Deferred → List Deferred → Prop
  | nil : DsRel μ [] []
  | cons {d d' : Deferred} {l l' : List Deferred} (h : DRel μ d d') (t : DsRel μ l l') : DsRel μ (d :: l) (d' :: l')

theorem TRel.mono {μ μ' : Mu} (h : μ.le μ') {x y : Target} (r : TRel μ x y) : TRel μ' x y := by
  cases r with
  | fn f hc => exact .fn f (hc.mono h)
  | nil => exact .nil
  | builtin => exact .builtin ..
theorem DRel.mono {μ μ' : Mu} (h : μ.le μ') {x y : Deferred} (r : DRel μ x y) : DRel μ' x y := ⟨r.target.mono h, r.args.mono h⟩
theorem DsRel.mono {μ μ' : Mu} (h : μ.le μ') {x y : List Deferred} (r : DsRel μ x y) : DsRel μ' x y := by
  induction r with
  | nil => exact .nil
  | cons hd _ ih => exact .cons (hd.mono h) ih

structure FRel (μ : Mu) (a : AAct) (c : Act) : Prop where
  size : c.tmps.size = a.size
  get : ∀ i, VRel μ (a.get i) (c.tmps.getD i undef)
  defers : DsRel μ a.defers c.defers

theorem FRel.mono {μ μ' : Mu} (h : μ.le μ') {a : AAct} {c : Act} (r : FRel μ a c) : FRel μ' a c :=
  ⟨r.size, fun i => (r.get i).mono h, r.defers.mono h⟩

theorem undef_rel (μ : Mu) : VRel μ undef undef := .tuple rfl (by simp)

theorem FRel.put {μ : Mu} {a : AAct} {c : Act} (r : FRel μ a c) (dst : Option Tmp) {v v' : Value} (h : VRel μ v v') : FRel μ (a.put dst v) (c.put dst v') := by
  cases dst with
  | none => exact r
  | some d =>
    by_cases hd : d < a.size
    · have e1 : a.put (some d) v = { a with t := a.t.set d v } := by simp [AAct.put, hd]
      rw [e1]
      refine ⟨by simp [Act.put, r.size], fun i => ?_, by simpa [Act.put] using r.defers⟩
      simp only [AAct.get, Act.put, Trie.get_set]
      by_cases hi : i = d
      · subst hi
        have : i < c.tmps.size := r.size ▸ hd
        simp [Array.getD, this, h]
      · have hg := r.get i
        simp only [AAct.get] at hg
        rw [if_neg hi]
        have : (c.tmps.setIfInBounds d v').getD i undef = c.tmps.getD i undef := by
          rw [Array.getD_eq_getD_getElem?, Array.getD_eq_getD_getElem?, Array.getElem?_setIfInBounds_ne (Ne.symm hi)]
        rw [this]; exact hg
    · have e1 : a.put (some d) v = a := by simp [AAct.put, hd]
      have e2 : c.put (some d) v' = c := by
        simp only [Act.put]
        have hle : c.tmps.size ≤ d := by rw [r.size]; exact Nat.le_of_not_lt hd
        rw [Array.setIfInBounds_eq_of_size_le hle]
      rw [e1, e2]; exact r

/-- An operand whose value is the same on both sides, or has its counterpart. -/
def okOperand (G : Nat) : Operand → Bool
  | .tmp _ => true
  | .const v => flat v
  | .global g => g < G
  | .func _ => true

theorem FRel.eval {P : Program} {μ : Mu} {h : Heap} {n : Nat} {w : World} {a : AAct} {c : Act} (r : FRel μ a c) (hr : Rel P μ h n w) {x : Operand} (hx : okOperand P.globals.size x = true) : VRel μ (a.eval x) (c.eval x) := by
  cases x with
  | tmp t => exact r.get t
  | const v => exact .flat_self hx
  | global g =>
    obtain ⟨m, hm, e1, e2⟩ := hr.glob g (by simpa [okOperand] using hx)
    have := VRel.ptr (μ := μ) 0 hm
    rw [e1, e2] at this
    exact this
  | func f => exact .func _ rfl rfl (by simp) (by simp)

/-! Ends of calls, ways out of codes. -/
inductive AEnd where
  | ret (v : Value)
  | pan (v : Value)

inductive ERel (μ : Mu) : AEnd → Ending → Prop
  | ret {v v' : Value} (h : VRel μ v v') : ERel μ (.ret v) (.returned v')
  | pan {v v' : Value} (h : VRel μ v v') : ERel μ (.pan v) (.panicked [{ v := v', recovered := false }])

def ACall (P : Program) (f : FuncId) (args : Array Value) (h : Heap) (n : Nat) (Q : AEnd → Heap → Nat → Prop) : Prop :=
  ∀ μ args' w, ARel μ args args' → Rel P μ h n w →
    Calls P f args' w fun e w' => ∃ μ' h' n' r, ERel μ' r e ∧ Rel P μ' h' n' w' ∧ Grow μ h w μ' h' w' ∧ n ≤ n' ∧ Q r h' n'

theorem ACall.mono {P : Program} {f : FuncId} {args : Array Value} {h : Heap} {n : Nat} {Q Q' : AEnd → Heap → Nat → Prop} (c : ACall P f args h n Q)
    (hq : ∀ r h' n', n ≤ n' → (∀ b, n' ≤ b → h'.get b = none) → Q r h' n' → ∃ h'', h''.sub h' ∧ Q' r h'' n') : ACall P f args h n Q' := by
  intro μ args' w ha hr
  refine (c μ args' w ha hr).mono ?_
  rintro e w' ⟨μ', h', n', r, he, hr', hg, hn, q⟩
  obtain ⟨h'', hs, q'⟩ := hq r h' n' hn (fun b hb => hr'.below hb) q
  exact ⟨μ', h'', n', r, he, hr'.sub hs, hg.sub hs, hn, q'⟩

inductive AExit where
  | normal
  | exit (id : Nat)
  | goto (l : Nat)
  | ret
  | pan (v : Value)

inductive XRel (μ : Mu) : AExit → Exit → Prop
  | normal : XRel μ .normal .normal
  | exit (id : Nat) : XRel μ (.exit id) (.exit id)
  | goto (l : Nat) : XRel μ (.goto l) (.goto l)
  | ret : XRel μ .ret .ret
  | pan {v v' : Value} (h : VRel μ v v') : XRel μ (.pan v) (.panic [{ v := v', recovered := false }])

abbrev APost := AExit → AAct → Heap → Nat → Prop

/-- What a concrete post is made of. -/
def lift (P : Program) (Q : APost) (μ : Mu) (h : Heap) (n : Nat) (w : World) : Exit → Act → World → Prop := fun e a' w' =>
  ∃ μ' x fr' h' n', XRel μ' x e ∧ FRel μ' fr' a' ∧ Rel P μ' h' n' w' ∧ Grow μ h w μ' h' w' ∧ n ≤ n' ∧ Q x fr' h' n'

def AWp (P : Program) (c : Code) (Q : APost) (fr : AAct) (h : Heap) (n : Nat) : Prop :=
  ∀ μ a w, FRel μ fr a → Rel P μ h n w → c.wp P (lift P Q μ h n w) a w

theorem lift.trans {P : Program} {Q : APost} {μ μ1 : Mu} {h h1 : Heap} {n n1 : Nat} {w w1 : World} (g : Grow μ h w μ1 h1 w1) (hn : n ≤ n1) {e : Exit} {a : Act} {w' : World} (l : lift P Q μ1 h1 n1 w1 e a w') : lift P Q μ h n w e a w' := by
  obtain ⟨μ', x, fr', h', n', hx, hf, hr, hg, hn', q⟩ := l
  exact ⟨μ', x, fr', h', n', hx, hf, hr, g.trans hg, Nat.le_trans hn hn', q⟩

/-- As 'wp_loop', the measure handed on with the relation. -/
theorem wp_loop_from {P : Program} {Q : Exit → Act → World → Prop} {a : Act} {w : World} {c : Code} (I : Nat → Act → World → Prop) (d : Nat) (h₀ : I d a w)
    (round : ∀ d a w, I d a w → c.wp P (Exit.then (fun a' w' => ∃ d', d' < d ∧ I d' a' w') Q) a w) : (Code.loop c).wp P Q a w := by
  intro b k cs
  have key : ∀ d a w, I d a w →
      ∃ e a' w', Q e a' w' ∧ Arrives P (lone (b.at a (.code c :: .inLoop c :: k)) cs w) b k cs e a' w' := by
    intro d
    induction d using Nat.strongRecOn with
    | _ d ih =>
      intro a w hI
      obtain ⟨e, a₁, w₁, hq, harr⟩ := round d a w hI b (.inLoop c :: k) cs
      cases e with
      | normal =>
        obtain ⟨d', hlt, hI₁⟩ := hq
        obtain ⟨e₂, a₂, w₂, hq₂, harr₂⟩ := ih d' hlt a₁ w₁ hI₁
        exact ⟨e₂, a₂, w₂, hq₂, .of_steps (Steps.trans harr (.one step_inLoop)) harr₂⟩
      | exit id => exact ⟨_, a₁, w₁, hq, .pass (x := .inLoop c) rfl (fun _ _ => .inl (by simp)) harr⟩
      | goto l => exact ⟨_, a₁, w₁, hq, .pass (x := .inLoop c) rfl (fun _ _ => .inl (by simp)) harr⟩
      | ret => exact ⟨_, a₁, w₁, hq, .pass (x := .inLoop c) rfl (fun _ _ => .inl (by simp)) harr⟩
      | panic ch => exact ⟨_, a₁, w₁, hq, .pass (x := .inLoop c) rfl (fun _ _ => .inl (by simp)) harr⟩
      | outgrown => exact ⟨_, a₁, w₁, hq, .pass (x := .inLoop c) rfl (fun _ _ => .inl (by simp)) harr⟩
  obtain ⟨e, a', w', hq, harr⟩ := key d a w h₀
  exact ⟨e, a', w', hq, .of_steps (.one step_loop) harr⟩

section rules
variable {P : Program} {Q : APost} {fr : AAct} {h : Heap} {n : Nat}

theorem lift_now {x : AExit} {μ : Mu} {e : Exit} {a : Act} {w : World} (hx : XRel μ x e) (hf : FRel μ fr a) (hr : Rel P μ h n w) (q : Q x fr h n) : lift P Q μ h n w e a w :=
  ⟨μ, x, fr, h, n, hx, hf, hr, .refl _ _ _, Nat.le_refl _, q⟩

theorem AWp.mono {c : Code} {Q' : APost} (a : AWp P c Q fr h n)
    (hq : ∀ x fr' h' n', n ≤ n' → (∀ b, n' ≤ b → h'.get b = none) → Q x fr' h' n' → Q' x fr' h' n') : AWp P c Q' fr h n := by
  intro μ c' w hf hr
  refine wp_mono (a μ c' w hf hr) ?_
  rintro e a' w' ⟨μ', x, fr', h', n', hx, hf', hr', hg, hn, q⟩
  exact ⟨μ', x, fr', h', n', hx, hf', hr', hg, hn, hq x fr' h' n' hn (fun b hb => hr'.below hb) q⟩

theorem AWp.skip (q : Q .normal fr h n) : AWp P .skip Q fr h n := fun _ _ _ hf hr => wp_skip (lift_now .normal hf hr q)
theorem AWp.label {l : Nat} (q : Q .normal fr h n) : AWp P (.label l) Q fr h n := fun _ _ _ hf hr => wp_label (lift_now .normal hf hr q)
theorem AWp.exit {id : Nat} (q : Q (.exit id) fr h n) : AWp P (.exit id) Q fr h n := fun _ _ _ hf hr => wp_exit (lift_now (.exit id) hf hr q)
theorem AWp.ret (q : Q .ret fr h n) : AWp P .ret Q fr h n := fun _ _ _ hf hr => wp_ret (lift_now .ret hf hr q)

def AExit.then (next : AAct → Heap → Nat → Prop) (Q : APost) : APost
  | .normal, a, h, n => next a h n
  | e, a, h, n => Q e a h n

theorem AWp.seq {x y : Code} (hx : AWp P x (AExit.then (AWp P y Q) Q) fr h n) : AWp P (.seq x y) Q fr h n := by
  intro μ a w hf hr
  refine wp_seq (wp_mono (hx μ a w hf hr) ?_)
  rintro e a1 w1 ⟨μ1, x1, fr1, h1, n1, hx1, hf1, hr1, hg1, hn1, q⟩
  cases hx1 with
  | normal => exact wp_mono (q μ1 a1 w1 hf1 hr1) fun e a' w' l => l.trans hg1 hn1
  | exit id => exact ⟨μ1, _, fr1, h1, n1, .exit id, hf1, hr1, hg1, hn1, q⟩
  | goto l => exact ⟨μ1, _, fr1, h1, n1, .goto l, hf1, hr1, hg1, hn1, q⟩
  | ret => exact ⟨μ1, _, fr1, h1, n1, .ret, hf1, hr1, hg1, hn1, q⟩
  | pan hv => exact ⟨μ1, _, fr1, h1, n1, .pan hv, hf1, hr1, hg1, hn1, q⟩

theorem AWp.cond {c : Operand} {x y : Code} {t : Bool} (ho : okOperand P.globals.size c = true) (hc : fr.eval c = .bool t) (hx : AWp P (if t then x else y) Q fr h n) : AWp P (.cond c x y) Q fr h n := by
  intro μ a w hf hr
  have hv := hf.eval hr ho
  rw [hc] at hv
  refine wp_cond (t := t) ?_ (hx μ a w hf hr)
  generalize a.eval c = z at hv
  cases hv; rfl

def AExit.inBlock (id : Nat) (Q : APost) : APost
  | .exit id', a, h, n => if id' = id then Q .normal a h n else Q (.exit id') a h n
  | e, a, h, n => Q e a h n

theorem AWp.block {id : Nat} {c : Code} (hx : AWp P c (AExit.inBlock id Q) fr h n) : AWp P (.block id c) Q fr h n := by
  intro μ a w hf hr
  refine wp_block (wp_mono (hx μ a w hf hr) ?_)
  rintro e a1 w1 ⟨μ1, x1, fr1, h1, n1, hx1, hf1, hr1, hg1, hn1, q⟩
  cases hx1 with
  | normal => exact ⟨μ1, _, fr1, h1, n1, .normal, hf1, hr1, hg1, hn1, q⟩
  | exit id' =>
    simp only [AExit.inBlock] at q
    simp only [Exit.inBlock]
    split
    · rename_i e; rw [if_pos e] at q; exact ⟨μ1, _, fr1, h1, n1, .normal, hf1, hr1, hg1, hn1, q⟩
    · rename_i e; rw [if_neg e] at q; exact ⟨μ1, _, fr1, h1, n1, .exit id', hf1, hr1, hg1, hn1, q⟩
  | goto l => exact ⟨μ1, _, fr1, h1, n1, .goto l, hf1, hr1, hg1, hn1, q⟩
  | ret => exact ⟨μ1, _, fr1, h1, n1, .ret, hf1, hr1, hg1, hn1, q⟩
  | pan hv => exact ⟨μ1, _, fr1, h1, n1, .pan hv, hf1, hr1, hg1, hn1, q⟩

/-- A loop: what holds at the head of each round, with how many rounds are left at most. -/
theorem AWp.loop {c : Code} (I : Nat → AAct → Heap → Nat → Prop) (d : Nat) (h0 : I d fr h n)
    (round : ∀ d fr h n, I d fr h n → AWp P c (AExit.then (fun fr' h' n' => ∃ d', d' < d ∧ I d' fr' h' n') Q) fr h n) : AWp P (.loop c) Q fr h n := by
  intro μ a w hf hr
  refine wp_loop_from (P := P) (Q := lift P Q μ h n w) (fun d a' w' => ∃ μ' fr' h' n', FRel μ' fr' a' ∧ Rel P μ' h' n' w' ∧ Grow μ h w μ' h' w' ∧ n ≤ n' ∧ I d fr' h' n') d
    ⟨μ, fr, h, n, hf, hr, .refl _ _ _, Nat.le_refl _, h0⟩ ?_
  rintro d a1 w1 ⟨μ1, fr1, h1, n1, hf1, hr1, hg1, hn1, hi⟩
  refine wp_mono (round d fr1 h1 n1 hi μ1 a1 w1 hf1 hr1) ?_
  rintro e a2 w2 ⟨μ2, x2, fr2, h2, n2, hx2, hf2, hr2, hg2, hn2, q⟩
  cases hx2 with
  | normal =>
    obtain ⟨d', hd, hi'⟩ := q
    exact ⟨d', hd, μ2, fr2, h2, n2, hf2, hr2, hg1.trans hg2, Nat.le_trans hn1 hn2, hi'⟩
  | exit id => exact ⟨μ2, _, fr2, h2, n2, .exit id, hf2, hr2, hg1.trans hg2, Nat.le_trans hn1 hn2, q⟩
  | goto l => exact ⟨μ2, _, fr2, h2, n2, .goto l, hf2, hr2, hg1.trans hg2, Nat.le_trans hn1 hn2, q⟩
  | ret => exact ⟨μ2, _, fr2, h2, n2, .ret, hf2, hr2, hg1.trans hg2, Nat.le_trans hn1 hn2, q⟩
  | pan hv => exact ⟨μ2, _, fr2, h2, n2, .pan hv, hf2, hr2, hg1.trans hg2, Nat.le_trans hn1 hn2, q⟩
end rules
end Go.Abs
