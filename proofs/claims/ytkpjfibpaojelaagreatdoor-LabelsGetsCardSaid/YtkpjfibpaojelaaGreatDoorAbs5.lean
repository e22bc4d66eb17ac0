/- Regions: operations one by one; a region that draws its order: calm operations (which read alone) first, the others one at a time. -/
import Derived.Test.YtkpjfibpaojelaaGreatDoorAbs4
namespace Go.Abs
open Go

/-! Frames that read the same. -/
structure AAct.Eqv (a b : AAct) : Prop where
  size : a.size = b.size
  defers : a.defers = b.defers
  get : ∀ i, a.get i = b.get i

theorem AAct.Eqv.refl (a : AAct) : a.Eqv a := ⟨rfl, rfl, fun _ => rfl⟩
theorem AAct.Eqv.symm {a b : AAct} (h : a.Eqv b) : b.Eqv a := ⟨h.size.symm, h.defers.symm, fun i => (h.get i).symm⟩
theorem AAct.Eqv.trans {a b c : AAct} (h : a.Eqv b) (k : b.Eqv c) : a.Eqv c := ⟨h.size.trans k.size, h.defers.trans k.defers, fun i => (h.get i).trans (k.get i)⟩

theorem AAct.size_put (a : AAct) (d : Option Tmp) (v : Value) : (a.put d v).size = a.size := by
  cases d with
  | none => rfl
  | some d => simp only [AAct.put]; split <;> rfl
theorem AAct.defers_put (a : AAct) (d : Option Tmp) (v : Value) : (a.put d v).defers = a.defers := by
  cases d with
  | none => rfl
  | some d => simp only [AAct.put]; split <;> rfl
theorem AAct.get_put (a : AAct) (d : Tmp) (v : Value) (i : Nat) : (a.put (some d) v).get i = if i = d ∧ d < a.size then v else a.get i := by
  simp only [AAct.put]
  by_cases h : d < a.size
  · simp only [h, if_true, and_true, AAct.get, Trie.get_set]
    by_cases e : i = d <;> simp [e]
  · simp [h]

theorem FRel.eqv {μ : Mu} {a b : AAct} {c : Act} (e : a.Eqv b) (r : FRel μ a c) : FRel μ b c :=
  ⟨r.size.trans e.size, fun i => e.get i ▸ r.get i, e.defers ▸ r.defers⟩

theorem AAct.Eqv.put {a b : AAct} (e : a.Eqv b) (d : Option Tmp) (v : Value) : (a.put d v).Eqv (b.put d v) := by
  refine ⟨by rw [a.size_put, b.size_put, e.size], by rw [a.defers_put, b.defers_put, e.defers], fun i => ?_⟩
  cases d with
  | none => exact e.get i
  | some d => rw [AAct.get_put, AAct.get_put, e.size, e.get]

theorem AAct.put_comm (a : AAct) {x y : Option Tmp} (v u : Value) (h : ∀ d, x = some d → y ≠ some d) : ((a.put x v).put y u).Eqv ((a.put y u).put x v) := by
  refine ⟨by simp only [AAct.size_put], by simp only [AAct.defers_put], fun i => ?_⟩
  cases x with
  | none => rfl
  | some d =>
    cases y with
    | none => rfl
    | some e =>
      have hne : d ≠ e := fun he => h d rfl (he ▸ rfl)
      simp only [AAct.get_put, AAct.size_put]
      by_cases h1 : i = d
      · subst h1; simp [hne]
      · simp [h1]

def yieldedA (ops : Array Oper) (fr : AAct) (j : Nat) : Option Bool :=
  match (ops[j]?).bind (·.dst) with
  | some t => match fr.get t with
    | .bool b => some b
    | _ => none
  | none => none

theorem yielded_rel {μ : Mu} {fr : AAct} {a : Act} (r : FRel μ fr a) (ops : Array Oper) (j : Nat) : yielded ops a.tmps j = yieldedA ops fr j := by
  unfold yielded yieldedA
  cases h : (ops[j]?).bind (·.dst) with
  | none => rfl
  | some t =>
    have hv := r.get t
    simp only [Option.bind_some]
    rw [Array.getD_eq_getD_getElem?] at hv
    cases ht : a.tmps[t]? with
    | none =>
      rw [ht] at hv
      simp only [Option.getD_none] at hv
      generalize fr.get t = z at hv
      cases hv; rfl
    | some x =>
      rw [ht] at hv
      simp only [Option.getD_some] at hv
      generalize fr.get t = z at hv
      cases hv <;> rfl

def wantedA (ops : Array Oper) (o : Oper) (fr : AAct) : Bool := Region.wanted o (yieldedA ops fr)
theorem wanted_rel {μ : Mu} {fr : AAct} {a : Act} (r : FRel μ fr a) (ops : Array Oper) (o : Oper) : Region.wanted o (yielded ops a.tmps) = wantedA ops o fr := by
  unfold wantedA
  congr 1
  funext j
  exact yielded_rel r ops j

/-! One operation. -/
abbrev ANextK := AAct → Heap → Nat → Prop

def liftK (P : Program) (K : ANextK) (μ : Mu) (h : Heap) (n : Nat) (w : World) : Act → World → Prop := fun a' w' =>
  ∃ μ' fr' h' n', FRel μ' fr' a' ∧ Rel P μ' h' n' w' ∧ Grow μ h w μ' h' w' ∧ n ≤ n' ∧ K fr' h' n'

theorem liftK.trans {P : Program} {K : ANextK} {μ μ1 : Mu} {h h1 : Heap} {n n1 : Nat} {w w1 : World} (g : Grow μ h w μ1 h1 w1) (hn : n ≤ n1) {a : Act} {w' : World} (l : liftK P K μ1 h1 n1 w1 a w') : liftK P K μ h n w a w' := by
  obtain ⟨μ', fr', h', n', hf, hr, hg, hn', q⟩ := l
  exact ⟨μ', fr', h', n', hf, hr, g.trans hg, Nat.le_trans hn hn', q⟩

/-- What an operation may turn of a frame: its slot, and what is deferred. -/
def Shape (ops : Array Oper) (j : Nat) (fr fr' : AAct) : Prop := ∃ ds u, fr' = ({ fr with defers := ds } : AAct).put ((ops[j]?).bind (·.dst)) u

def AOp (P : Program) (ops : Array Oper) (Q : APost) (j : Nat) (K : ANextK) (fr : AAct) (h : Heap) (n : Nat) : Prop :=
  ∀ μ a w, FRel μ fr a → Rel P μ h n w → wpOp P ops (lift P (fun x fr' h' n' => fr' = fr ∧ Q x fr' h' n') μ h n w) j (liftK P (fun fr' h' n' => Shape ops j fr fr' ∧ K fr' h' n') μ h n w) a w

theorem AOp.mono {P : Program} {ops : Array Oper} {Q : APost} {j : Nat} {K K' : ANextK} {fr : AAct} {h : Heap} {n : Nat} (o : AOp P ops Q j K fr h n)
    (hk : ∀ fr' h' n', n ≤ n' → (∀ b, n' ≤ b → h'.get b = none) → K fr' h' n' → K' fr' h' n') : AOp P ops Q j K' fr h n := by
  intro μ a w hf hr
  refine wpOp_mono ?_ (o μ a w hf hr)
  rintro a' w' ⟨μ', fr', h', n', hf', hr', hg, hn, s, k⟩
  exact ⟨μ', fr', h', n', hf', hr', hg, hn, s, hk fr' h' n' hn (fun b hb => hr'.below hb) k⟩

/-- An operation that reads alone: its value. -/
def CalmVal (P : Program) (o : Oper) (ρ : Operand → Value) (h : Heap) (v : Value) : Prop :=
  ∀ μ (ρ' : Operand → Value) n w, (∀ x ∈ o.op.operands, VRel μ (ρ x) (ρ' x)) → Rel P μ h n w → ∃ v', (execOp ρ' o).run P w = .ok (.value v') w ∧ VRel μ v v'

def okOper (G : Nat) (o : Oper) : Bool := o.op.operands.toList.all (okOperand G)

theorem okOper_rel {P : Program} {o : Oper} (h : okOper P.globals.size o = true) {μ : Mu} {fr : AAct} {a : Act} {hp : Heap} {n : Nat} {w : World} (hf : FRel μ fr a) (hr : Rel P μ hp n w) :
    ∀ x ∈ o.op.operands, VRel μ (fr.eval x) (a.eval x) := by
  intro x hx
  have := List.all_eq_true.1 h x (by simpa using hx)
  exact hf.eval hr this

/-- What a calm operation comes to, skipped or not. -/
def Calm (P : Program) (o : Oper) (wanted : Bool) (ρ : Operand → Value) (h : Heap) (v : Value) : Prop :=
  if wanted then okOper P.globals.size o = true ∧ CalmVal P o ρ h v else v = undef

theorem AOp.calm {P : Program} {ops : Array Oper} {Q : APost} {j : Nat} {o : Oper} {K : ANextK} {fr : AAct} {h : Heap} {n : Nat} {v : Value} (ho : ops[j]? = some o)
    (hc : Calm P o (wantedA ops o fr) fr.eval h v) (hk : K (fr.put o.dst v) h n) : AOp P ops Q j K fr h n := by
  intro μ a w hf hr
  unfold wpOp
  simp only [ho]
  rw [wanted_rel hf]
  unfold Calm at hc
  split
  · rename_i hw
    rw [if_pos hw] at hc
    obtain ⟨v', e, hv⟩ := hc.2 μ a.eval n w (okOper_rel hc.1 hf hr) hr
    refine .inl ?_
    simp only [Oper.wp, e, Oper.upon]
    exact ⟨μ, _, h, n, hf.put _ hv, hr, .refl _ _ _, Nat.le_refl _, ⟨fr.defers, v, by simp [ho]⟩, hk⟩
  · rename_i hw
    rw [if_neg hw] at hc
    subst hc
    exact ⟨μ, _, h, n, hf.put _ (undef_rel μ), hr, .refl _ _ _, Nat.le_refl _, ⟨fr.defers, undef, by simp [ho]⟩, hk⟩

/-- 'wpOps' in its post. -/
theorem wpOp_post {P : Program} {ops : Array Oper} {Q Q' : Exit → Act → World → Prop} (hq : ∀ e a w, Q e a w → Q' e a w) {K : Act → World → Prop} {j : Nat} {a : Act} {w : World} (h : wpOp P ops Q j K a w) : wpOp P ops Q' j K a w := by
  unfold wpOp at *
  split
  · rename_i e; simp only [e] at h; exact h
  · rename_i o e
    simp only [e] at h
    split
    · rename_i hw
      simp only [hw, if_true] at h
      refine h.imp (fun h => ?_) (fun h => ⟨h.1, let ⟨a, w, x⟩ := h.2; ⟨a, w, hq _ _ _ x⟩⟩)
      unfold Oper.wp at *
      generalize (execOp a.eval o).run P w = r at *
      cases r with
      | ok nx w' =>
        cases nx <;> simp only [Oper.upon] at h ⊢ <;> first
          | exact h
          | exact Calls.mono h (fun e w'' he => by
              cases e with
              | returned v => exact he
              | panicked c => exact hq _ _ _ he
              | outgrown => exact let ⟨a, w, x⟩ := he; ⟨a, w, hq _ _ _ x⟩)
      | halt x w' => cases x <;> simp only [Oper.upon] at h ⊢ <;> first | exact h | exact hq _ _ _ h
    · rename_i hw; simp only [hw] at h; exact h

theorem wpOps_post {P : Program} {ops : Array Oper} {Q Q' : Exit → Act → World → Prop} (hq : ∀ e a w, Q e a w → Q' e a w) : ∀ {l : List Nat} {a : Act} {w : World}, wpOps P ops Q l a w → wpOps P ops Q' l a w := by
  intro l
  induction l with
  | nil => intro a w h; exact hq _ _ _ h
  | cons i rest ih =>
    intro a w h
    rw [wpOps_cons] at *
    exact wpOp_post hq (wpOp_mono (fun a w => ih) h)

theorem lift_weak {P : Program} {S : AAct → Prop} {Q : APost} {μ : Mu} {h : Heap} {n : Nat} {w : World} (e : Exit) (a' : Act) (w' : World)
    (l : lift P (fun x fr' h' n' => S fr' ∧ Q x fr' h' n') μ h n w e a' w') : lift P Q μ h n w e a' w' := by
  obtain ⟨μ', x, fr', h', n', hx, hf, hr, hg, hn', _, q⟩ := l
  exact ⟨μ', x, fr', h', n', hx, hf, hr, hg, hn', q⟩

/-! A region whose order is the text's. -/
def AOps (P : Program) (ops : Array Oper) (Q : APost) : List Nat → ANextK
  | [], fr, h, n => Q .normal fr h n
  | i :: rest, fr, h, n => AOp P ops Q i (AOps P ops Q rest) fr h n

theorem AOps.sound {P : Program} {ops : Array Oper} {Q : APost} : ∀ (l : List Nat) (fr : AAct) (h : Heap) (n : Nat), AOps P ops Q l fr h n →
    ∀ μ a w, FRel μ fr a → Rel P μ h n w → wpOps P ops (lift P Q μ h n w) l a w := by
  intro l
  induction l with
  | nil => intro fr h n q μ a w hf hr; exact lift_now .normal hf hr q
  | cons i rest ih =>
    intro fr h n q μ a w hf hr
    rw [wpOps_cons]
    refine wpOp_mono ?_ (wpOp_post lift_weak (q μ a w hf hr))
    rintro a' w' ⟨μ', fr', h', n', hf', hr', hg, hn, _, k⟩
    refine wpOps_post ?_ (ih fr' h' n' k μ' a' w' hf' hr')
    exact fun e a w l => l.trans hg hn

theorem AWp.region {P : Program} {id : Nat} {ops : Array Oper} {Q : APost} {fr : AAct} {h : Heap} {n : Nat} (q : AOps P ops Q (List.range ops.size) fr h n) : AWp P (.region id ops false) Q fr h n :=
  fun μ a w hf hr => wp_region (AOps.sound _ _ _ _ q μ a w hf hr)
end Go.Abs
