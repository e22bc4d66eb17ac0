/- A region that draws its order. -/
import Derived.Test.YtkpjfibpaojelaaGreatDoorAbs5
namespace Go.Abs
open Go

/-- One operation stands directly behind another one. -/
def dep (ops : Array Oper) (j k : Nat) : Bool := match ops[j]? with
  | some o => o.after.any fun e => Region.binds .any e && e.on == k
  | none => false

/-- What must stay, as long as no operation that acts and stands behind it has been done. -/
abbrev Inv := List (Nat × (Heap → Prop))

def Inv.holds (act : Nat → Bool) (ops : Array Oper) (inv : Inv) (listed : Array Bool) (h : Heap) : Prop :=
  ∀ x ∈ inv, (∀ j, act j = true → listed.getD j false = true → dep ops j x.1 = false) → x.2 h

def AAny (P : Program) (act : Nat → Bool) (ops : Array Oper) (Q : APost) (inv : Inv) : Nat → Array Bool → ANextK
  | 0, listed, fr, h, n => Region.ready .any ops listed = [] ∧ Q .normal fr h n
  | f + 1, listed, fr, h, n => (Region.ready .any ops listed = [] → Q .normal fr h n) ∧
      ∀ i ∈ Region.ready .any ops listed, AOp P ops Q i (fun fr' h' n' => inv.holds act ops (listed.setIfInBounds i true) h' ∧ AAny P act ops Q inv f (listed.setIfInBounds i true) fr' h' n') fr h n

theorem wpAny_post {P : Program} {ops : Array Oper} {md : Region.Mode} {Q Q' : Exit → Act → World → Prop} (hq : ∀ e a w, Q e a w → Q' e a w) : ∀ {f : Nat} {listed : Array Bool} {a : Act} {w : World}, wpAny P md ops Q f listed a w → wpAny P md ops Q' f listed a w := by
  intro f
  induction f with
  | zero => intro listed a w h; exact ⟨h.1, hq _ _ _ h.2⟩
  | succ f ih =>
    intro listed a w h
    exact ⟨fun h0 => hq _ _ _ (h.1 h0), fun i hi => wpOp_post hq (wpOp_mono (fun a w => ih) (h.2 i hi))⟩

/-- An operation behind a slot that it does not look at: it may be done ahead. -/
theorem wpOp_shift {P : Program} {ops : Array Oper} {Q Q' : Exit → Act → World → Prop} {j : Nat} {oi oj : Oper} {v : Value} (hj : ops[j]? = some oj) (hap : oi.apart ops oj = true)
    (hsj : ∀ cs b, oj.op ≠ .select cs b) {K : Act → World → Prop} {a : Act} {w : World}
    (hQ : ∀ c w', Q (.panic c) (a.put oi.dst v) w' → Q' (.panic c) a w') (hout : ¬ LetsOut Q)
    (h : wpOp P ops Q j K (a.put oi.dst v) w) :
    wpOp P ops Q' j (fun a' w' => (∃ ds u, a' = ({ a with defers := ds } : Act).put oj.dst u) ∧ K (a'.put oi.dst v) w') a w := by
  obtain ⟨h1, h2, h3⟩ := Oper.apart_spec hap
  unfold wpOp at *
  simp only [hj] at *
  rw [wanted_put oj a oi.dst v h1] at h
  split
  · rename_i hw
    simp only [hw, if_true] at h
    rcases h with h | ⟨_, hlets⟩
    case inr => exact (hout hlets).elim
    refine .inl ?_
    unfold Oper.wp at *
    rw [execOp_put oj hsj a oi.dst v h1] at h
    generalize (execOp a.eval oj).run P w = r at *
    cases r with
    | ok nx w' =>
      cases nx <;> simp only [Oper.upon] at h ⊢
      case value u => exact ⟨⟨a.defers, u, rfl⟩, by rw [← Act.put_comm a v u h2]; exact h⟩
      case skip => exact ⟨⟨a.defers, undef, rfl⟩, by rw [← Act.put_comm a v undef h2]; exact h⟩
      case defer d =>
        refine ⟨⟨d :: a.defers, undef, rfl⟩, ?_⟩
        rw [← Act.put_comm _ v undef h2, ← Act.put_defers]
        exact h
      case enter f args =>
        refine Calls.mono h fun e w'' he => ?_
        cases e with
        | returned u => exact ⟨⟨a.defers, u, rfl⟩, by rw [← Act.put_comm a v u h2]; exact he⟩
        | panicked c => exact hQ _ _ he
        | outgrown => exact (hout he).elim
      case row row args => exact Rows.mono h fun u w'' he => ⟨⟨a.defers, u, rfl⟩, by rw [← Act.put_comm a v u h2]; exact he⟩
    | halt x w' =>
      cases x <;> simp only [Oper.upon] at h ⊢
      case panic u => exact hQ _ _ h
  · rename_i hw
    simp only [hw] at h
    exact ⟨⟨a.defers, undef, rfl⟩, by rw [← Act.put_comm a v undef h2]; exact h⟩

theorem lift_not_out {P : Program} {Q : APost} {μ : Mu} {h : Heap} {n : Nat} {w : World} : ¬ LetsOut (lift P Q μ h n w) := by
  rintro ⟨a, w', _, x, _, _, _, hx, _⟩
  cases hx

section
variable {P : Program} {act : Nat → Bool} {ops : Array Oper} {Q : APost}

theorem AAny.sound {inv : Inv} : ∀ (f : Nat) (listed : Array Bool) (fr : AAct) (h : Heap) (n : Nat), AAny P act ops Q inv f listed fr h n →
    ∀ μ a w, FRel μ fr a → Rel P μ h n w → wpAny P .any ops (lift P Q μ h n w) f listed a w := by
  intro f
  induction f with
  | zero => intro listed fr h n q μ a w hf hr; exact ⟨q.1, lift_now .normal hf hr q.2⟩
  | succ f ih =>
    intro listed fr h n q μ a w hf hr
    refine ⟨fun h0 => lift_now .normal hf hr (q.1 h0), fun i hi => ?_⟩
    refine wpOp_mono ?_ (wpOp_post lift_weak (q.2 i hi μ a w hf hr))
    rintro a' w' ⟨μ', fr', h', n', hf', hr', hg, hn, _, _, k⟩
    exact wpAny_post (fun e a w l => l.trans hg hn) (ih _ fr' h' n' k μ' a' w' hf' hr')

/-- A post that asks frames for what they read. -/
def Ext (Q : APost) : Prop := ∀ x fr fr' h n, fr.Eqv fr' → Q x fr h n → Q x fr' h n

theorem AOp.eqv {K : ANextK} (hQ : Ext Q) (hK : ∀ fr1 fr2 h n, fr1.Eqv fr2 → K fr1 h n → K fr2 h n) {j : Nat} {fr fr' : AAct} {h : Heap} {n : Nat} (e : fr.Eqv fr') (o : AOp P ops Q j K fr h n) : AOp P ops Q j K fr' h n := by
  intro μ a w hf hr
  refine wpOp_mono ?_ (wpOp_post ?_ (o μ a w (hf.eqv e.symm) hr))
  · rintro a' w' ⟨μ', fr1, h', n', hf', hr', hg, hn, ⟨ds, u, rfl⟩, k⟩
    have e' : (({ fr with defers := ds } : AAct).put ((ops[j]?).bind (·.dst)) u).Eqv (({ fr' with defers := ds } : AAct).put ((ops[j]?).bind (·.dst)) u) :=
      AAct.Eqv.put (a := { fr with defers := ds }) (b := { fr' with defers := ds }) ⟨e.size, rfl, e.get⟩ _ _
    exact ⟨μ', _, h', n', hf'.eqv e', hr', hg, hn, ⟨ds, u, rfl⟩, hK _ _ _ _ e' k⟩
  · rintro ex a' w' ⟨μ', x, fr1, h', n', hx, hf', hr', hg, hn, rfl, q⟩
    exact ⟨μ', x, fr', h', n', hx, hf'.eqv e, hr', hg, hn, rfl, hQ _ _ _ _ _ e q⟩

theorem AOp.mono2 {j : Nat} {K K' : ANextK} {fr : AAct} {h : Heap} {n : Nat} (o : AOp P ops Q j K fr h n)
    (hk : ∀ fr' h' n', Shape ops j fr fr' → K fr' h' n' → K' fr' h' n') : AOp P ops Q j K' fr h n := by
  intro μ a w hf hr
  refine wpOp_mono ?_ (o μ a w hf hr)
  rintro a' w' ⟨μ', fr', h', n', hf', hr', hg, hn, s, k⟩
  exact ⟨μ', fr', h', n', hf', hr', hg, hn, s, hk fr' h' n' s k⟩

theorem AAny.eqv {inv : Inv} (hQ : Ext Q) : ∀ {f : Nat} {listed : Array Bool} {fr fr' : AAct} {h : Heap} {n : Nat}, fr.Eqv fr' → AAny P act ops Q inv f listed fr h n → AAny P act ops Q inv f listed fr' h n := by
  intro f
  induction f with
  | zero => intro listed fr fr' h n e q; exact ⟨q.1, hQ _ _ _ _ _ e q.2⟩
  | succ f ih =>
    intro listed fr fr' h n e q
    exact ⟨fun h0 => hQ _ _ _ _ _ e (q.1 h0), fun i hi => (q.2 i hi).eqv hQ (fun fr1 fr2 h n e k => ⟨k.1, ih e k.2⟩) e⟩

theorem Calm.congr {o : Oper} {wt wt' : Bool} {ρ ρ' : Operand → Value} {h : Heap} {v : Value} (hw : wt' = wt) (hρ : ∀ x ∈ o.op.operands, ρ' x = ρ x) (c : Calm P o wt ρ h v) : Calm P o wt' ρ' h v := by
  subst hw
  unfold Calm at *
  split
  · rename_i hw
    rw [if_pos hw] at c
    refine ⟨c.1, fun μ ρ'' n w hr hR => c.2 μ ρ'' n w (fun x hx => ?_) hR⟩
    rw [← hρ x hx]; exact hr x hx
  · rename_i hw
    rw [if_neg hw] at c
    exact c

theorem eval_putA {fr : AAct} {dst : Option Tmp} {v : Value} {x : Operand} (h : ∀ d, dst = some d → x ≠ .tmp d) : (fr.put dst v).eval x = fr.eval x := by
  cases dst with
  | none => rfl
  | some d =>
    cases x with
    | tmp t =>
      have hne : t ≠ d := fun e => h d rfl (e ▸ rfl)
      simp [AAct.eval, AAct.get_put, hne]
    | _ => rfl

theorem operands_put {o : Oper} {fr : AAct} {dst : Option Tmp} {v : Value} (h : ∀ d, dst = some d → d ∉ o.looksAt ops) : ∀ x ∈ o.op.operands, (fr.put dst v).eval x = fr.eval x :=
  fun x hx => eval_putA fun d hd hxd => h d hd (by
    subst hxd
    exact List.mem_append_left _ (List.mem_filterMap.2 ⟨.tmp d, by simpa using hx, rfl⟩))

theorem wantedA_put {o : Oper} {fr : AAct} {dst : Option Tmp} {v : Value} (h : ∀ d, dst = some d → d ∉ o.looksAt ops) : wantedA ops o (fr.put dst v) = wantedA ops o fr := by
  cases dst with
  | none => rfl
  | some d =>
    unfold wantedA Region.wanted
    cases hg : o.guard with
    | none => rfl
    | some gw =>
      obtain ⟨g, want⟩ := gw
      have hy : yieldedA ops (fr.put (some d) v) g = yieldedA ops fr g := by
        unfold yieldedA
        cases ht : (ops[g]?).bind (·.dst) with
        | none => rfl
        | some t =>
          have hne : t ≠ d := fun e => h d rfl (by subst e; simp [Oper.looksAt, hg, ht])
          simp [AAct.get_put, hne]
      simp only [hy]

theorem calm_put {o : Oper} {fr : AAct} {dst : Option Tmp} {u v : Value} {h : Heap} (hd : ∀ d, dst = some d → d ∉ o.looksAt ops) (c : Calm P o (wantedA ops o fr) fr.eval h v) :
    Calm P o (wantedA ops o (fr.put dst u)) (fr.put dst u).eval h v :=
  c.congr (wantedA_put hd) (operands_put hd)

/-- An operation that reads alone has been done ahead of another one that does not look at it: it may be done behind it. -/
theorem AOp.behind {j : Nat} {oi oj : Oper} {v : Value} {K : ANextK} {fr : AAct} {h : Heap} {n : Nat} (hj : ops[j]? = some oj) (hap : oi.apart ops oj = true)
    (hsj : ∀ cs b, oj.op ≠ .select cs b)
    (hpan : ∀ x fr h n, Q (.pan x) (fr.put oi.dst v) h n → Q (.pan x) fr h n)
    (hc : Calm P oi (wantedA ops oi fr) fr.eval h v) (o : AOp P ops Q j K (fr.put oi.dst v) h n) :
    AOp P ops Q j (fun fr' h' n' => ∃ fr'', fr''.Eqv (fr'.put oi.dst v) ∧ K fr'' h' n') fr h n := by
  obtain ⟨h1, h2, h3⟩ := Oper.apart_spec hap
  intro μ a w hf hr
  obtain ⟨v', hv⟩ : ∃ v', VRel μ v v' := by
    unfold Calm at hc
    split at hc
    · obtain ⟨v', _, hv⟩ := hc.2 μ a.eval n w (okOper_rel hc.1 hf hr) hr
      exact ⟨v', hv⟩
    · subst hc; exact ⟨undef, undef_rel μ⟩
  have hw := o μ (a.put oi.dst v') w (hf.put _ hv) hr
  refine wpOp_mono ?_ (wpOp_shift (Q' := lift P (fun x fr' h' n' => fr' = fr ∧ Q x fr' h' n') μ h n w) hj hap hsj ?_ lift_not_out hw)
  · rintro a' w' ⟨⟨ds, u', rfl⟩, μ', fr', h', n', hf', hr', hg, hn, ⟨dsA, u, rfl⟩, k⟩
    simp only [hj, Option.bind_some] at hf' k
    refine ⟨μ', ({ fr with defers := dsA } : AAct).put oj.dst u, h', n', ?_, hr', hg, hn, ⟨dsA, u, by simp [hj]⟩, _, ?_, k⟩
    · have hf0 := hf.mono hg.le
      have hds : DsRel μ' dsA ds := by
        have := hf'.defers
        rw [AAct.defers_put] at this
        have e : ((({ a with defers := ds } : Act).put oj.dst u').put oi.dst v').defers = ds := by
          cases oi.dst <;> cases oj.dst <;> rfl
        rw [e] at this; exact this
      have hfd : FRel μ' ({ fr with defers := dsA } : AAct) ({ a with defers := ds } : Act) := ⟨hf0.size, hf0.get, hds⟩
      cases hd : oj.dst with
      | none => simpa [AAct.put, Act.put] using hfd
      | some d =>
        by_cases hlt : d < fr.size
        · refine hfd.put (some d) ?_
          have g := hf'.get d
          rw [hd] at g
          rw [AAct.get_put, if_pos ⟨rfl, by rw [show ({ fr.put oi.dst v with defers := dsA } : AAct).size = (fr.put oi.dst v).size from rfl, AAct.size_put]; exact hlt⟩] at g
          have hne : ∀ e, oi.dst = some e → e ≠ d := fun e he h => h2 e he (by rw [hd, h])
          have e1 : ((({ a with defers := ds } : Act).put (some d) u').put oi.dst v').tmps.getD d undef = u' := by
            have hs : d < a.tmps.size := by rw [hf.size]; exact hlt
            cases hi : oi.dst with
            | none => simp [Act.put, hs]
            | some e =>
              have := hne e hi
              simp [Act.put, hs, this]
          rw [e1] at g; exact g
        · have e1 : ({ fr with defers := dsA } : AAct).put (some d) u = ({ fr with defers := dsA } : AAct) := by simp [AAct.put, hlt]
          have e2 : ({ a with defers := ds } : Act).put (some d) u' = ({ a with defers := ds } : Act) := by
            have hle : a.tmps.size ≤ d := by rw [hf.size]; exact Nat.le_of_not_lt hlt
            simp only [Act.put]
            rw [Array.setIfInBounds_eq_of_size_le hle]
          rw [e1, e2]; exact hfd
    · have e : ({ fr.put oi.dst v with defers := dsA } : AAct) = ({ fr with defers := dsA } : AAct).put oi.dst v := by
        cases oi.dst with
        | none => rfl
        | some d => simp only [AAct.put]; split <;> rfl
      rw [e]
      exact AAct.put_comm _ _ _ h2
  · rintro c w' ⟨μ', x, fr', h', n', hx, _, hr', hg, hn, rfl, q⟩
    cases hx with
    | pan hv' => exact ⟨μ', _, fr, h', n', .pan hv', hf.mono hg.le, hr', hg, hn, rfl, hpan _ _ _ _ q⟩

/-- What has been done stands behind what it hangs on. -/
def Closed (ops : Array Oper) (listed : Array Bool) : Prop := ∀ j k, listed.getD j false = true → dep ops j k = true → listed.getD k false = true

theorem Closed.step {listed : Array Bool} (hc : Closed ops listed) {i : Nat} (hi : i ∈ Region.ready .any ops listed) : Closed ops (listed.setIfInBounds i true) := by
  intro j k hj hd
  by_cases e : i = j
  · subst e
    obtain ⟨_, o, ho, hall⟩ := mem_ready.1 hi
    simp only [dep, ho] at hd
    obtain ⟨e, he, hb⟩ := Array.any_eq_true'.1 hd
    simp only [Bool.and_eq_true, beq_iff_eq] at hb
    have := hall e he hb.1
    rw [hb.2] at this
    exact getD_set_true this
  · rw [getD_set_ne false e] at hj
    exact getD_set_true (hc j k hj hd)

theorem AAny.first {i : Nat} {oi : Oper} {v : Value} (hi : ops[i]? = some oi) (hsel : Region.noSelect ops = true) (hact : act i = false)
    (hpan : ∀ x fr h n, Q (.pan x) (fr.put oi.dst v) h n → Q (.pan x) fr h n) (hext : Ext Q) (inv : Inv) (Y : Heap → Prop) :
    ∀ (fuel : Nat) (listed : Array Bool) (fr : AAct) (h : Heap) (n : Nat),
      (∀ j oj, ops[j]? = some oj → j ≠ i → listed.getD j true = false → (∀ e ∈ oj.after, Region.binds .any e = true → e.on ≠ i) → oi.apart ops oj = true) →
      Closed ops listed → listed.getD i false = false →
      i ∈ Region.ready .any ops listed → (∀ h, Y h → Calm P oi (wantedA ops oi fr) fr.eval h v) → Y h → inv.holds act ops listed h →
      AAny P act ops Q ((i, Y) :: inv) fuel (listed.setIfInBounds i true) (fr.put oi.dst v) h n → AAny P act ops Q inv (fuel + 1) listed fr h n := by
  have weak : ∀ (fuel : Nat) (listed : Array Bool) (fr : AAct) (h : Heap) (n : Nat), AAny P act ops Q ((i, Y) :: inv) fuel listed fr h n → AAny P act ops Q inv fuel listed fr h n := by
    intro fuel
    induction fuel with
    | zero => intro listed fr h n H; exact H
    | succ f ih =>
      intro listed fr h n H
      exact ⟨H.1, fun j hj => (H.2 j hj).mono fun fr' h' n' _ _ k => ⟨fun x hx => k.1 x (List.mem_cons_of_mem _ hx), ih _ _ _ _ k.2⟩⟩
  have hsize : ∀ {listed : Array Bool}, i ∈ Region.ready .any ops listed → i < listed.size := by
    intro listed hr
    have h0 := (mem_ready.1 hr).1
    rcases Nat.lt_or_ge i listed.size with h | h
    · exact h
    · rw [Array.getD_eq_getD_getElem?, Array.getElem?_eq_none h] at h0; simp at h0
  have invI : ∀ {listed : Array Bool} {h : Heap}, inv.holds act ops listed h → inv.holds act ops (listed.setIfInBounds i true) h := by
    intro listed h hv x hx hall
    refine hv x hx fun j hj hl => hall j hj (getD_set_true hl)
  intro fuel
  induction fuel with
  | zero =>
    intro listed fr h n hap hcl hli hr hy hY hinv H
    have hone : ∀ j ∈ Region.ready .any ops listed, j = i := by
      intro j hj
      rcases Nat.decEq j i with e | e
      · have := ready_mono hj e
        rw [H.1] at this; simp at this
      · exact e
    refine ⟨fun h0 => by rw [h0] at hr; simp at hr, fun j hj => ?_⟩
    rw [hone j hj]
    exact AOp.calm hi (hy h hY) ⟨invI hinv, weak 0 _ _ _ _ H⟩
  | succ f ih =>
    intro listed fr h n hap hcl hli hr hy hY hinv H
    refine ⟨fun h0 => by rw [h0] at hr; simp at hr, fun j hj => ?_⟩
    rcases Nat.decEq j i with hne | rfl
    · have hjr := ready_mono hj hne
      obtain ⟨hl0, oj, hoj, hall⟩ := mem_ready.1 hj
      have hnodep : ∀ e ∈ oj.after, Region.binds .any e = true → e.on ≠ i := by
        intro e he hb hei
        have := hall e he hb
        rw [hei, hli] at this; cases this
      have hapart := hap j oj hoj hne hl0 hnodep
      have hsj := Region.noSelect_spec hsel j
      have ho := H.2 j hjr
      refine (ho.behind hoj hapart (fun cs b => hsj oj cs b hoj) hpan (hy h hY)).mono2 ?_
      rintro fr' h' n' hshape ⟨fr'', heq, kinv, kany⟩
      obtain ⟨ds, u, rfl⟩ := hshape
      simp only [hoj, Option.bind_some] at heq ⊢
      obtain ⟨a1, a2, a3⟩ := Oper.apart_spec hapart
      have hcomm : (listed.setIfInBounds i true).setIfInBounds j true = (listed.setIfInBounds j true).setIfInBounds i true := Array.setIfInBounds_comm _ _ (Ne.symm hne)
      rw [hcomm] at kinv kany
      have hactcond : ∀ {k : Nat}, (∀ j', act j' = true → (listed.setIfInBounds j true).getD j' false = true → dep ops j' k = false) →
          ∀ j', act j' = true → ((listed.setIfInBounds j true).setIfInBounds i true).getD j' false = true → dep ops j' k = false := by
        intro k hk j' ha hl
        by_cases e : i = j'
        · subst e; rw [hact] at ha; cases ha
        · rw [getD_set_ne false e] at hl; exact hk j' ha hl
      have hY' : Y h' := by
        refine kinv (i, Y) (List.mem_cons_self) (hactcond ?_)
        intro j' ha hl
        cases hd : dep ops j' i with
        | false => rfl
        | true =>
          have hcl' := (hcl.step hj) j' i hl hd
          rw [getD_set_ne false hne] at hcl'
          rw [hli] at hcl'; cases hcl'
      have hinv' : inv.holds act ops (listed.setIfInBounds j true) h' := by
        intro x hx hall'
        exact kinv x (List.mem_cons_of_mem _ hx) (hactcond hall')
      refine ⟨hinv', ?_⟩
      refine ih (listed.setIfInBounds j true) _ h' n' ?_ (hcl.step hj) ?_ ?_ ?_ hY' hinv' (kany.eqv hext heq)
      · intro k ok hk hki hl hno
        refine hap k ok hk hki ?_ hno
        by_cases e : j = k
        · subst e
          have hjs : j < listed.size := by
            rcases Nat.lt_or_ge j listed.size with h | h
            · exact h
            · rw [Array.getD_eq_getD_getElem?, Array.getElem?_eq_none h] at hl0; simp at hl0
          rw [Array.getD_eq_getD_getElem?, Array.getElem?_setIfInBounds_self_of_lt hjs] at hl
          simp at hl
        · rw [getD_set_ne true e] at hl; exact hl
      · rw [getD_set_ne false hne]; exact hli
      · exact ready_mono hr (Ne.symm hne)
      · intro h0 hY0
        have hc := hy h0 hY0
        have e : ({ fr with defers := ds } : AAct).put oj.dst u = ({ fr.put oj.dst u with defers := ds } : AAct) := by
          cases oj.dst with
          | none => rfl
          | some d => simp only [AAct.put]; split <;> rfl
        rw [e]
        have hc2 := calm_put (ops := ops) (u := u) (dst := oj.dst) a3 hc
        exact hc2.congr rfl (fun x _ => rfl)
    · exact AOp.calm hi (hy h hY) ⟨invI hinv, weak _ _ _ _ _ H⟩
end
end Go.Abs
