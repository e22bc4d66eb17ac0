/- The weakest precondition of a region that draws its order. -/
import Derived.Test.YtkpjfibpaojelaaGreatDoorAbs19
namespace Go.Abs
open Go

/-- A post whose part on panics looks at these slots alone. -/
def PanExt (S : List Nat) (Q : APost) : Prop := ∀ x fr fr' h n, fr.defers = fr'.defers → (∀ t ∈ S, fr.get t = fr'.get t) → Q (.pan x) fr h n → Q (.pan x) fr' h n

/-- No operation writes to these slots. -/
def avoids (S : List Nat) (ops : Array Oper) : Bool := ops.toList.all fun o => match o.dst with
  | some d => !S.contains d
  | none => true

def EQ (Q : APost) : APost := fun x fr h n => ∃ fr', fr'.Eqv fr ∧ Q x fr' h n

theorem EQ.ext (Q : APost) : Ext (EQ Q) := fun _ _ _ _ _ e ⟨fr0, e0, q⟩ => ⟨fr0, e0.trans e, q⟩

theorem lift_EQ {P : Program} {Q : APost} {μ : Mu} {h : Heap} {n : Nat} {w : World} (e : Exit) (a : Act) (w' : World) (l : lift P (EQ Q) μ h n w e a w') : lift P Q μ h n w e a w' := by
  obtain ⟨μ', x, fr', h', n', hx, hf, hr, hg, hn, fr0, e0, q⟩ := l
  exact ⟨μ', x, fr0, h', n', hx, hf.eqv e0.symm, hr, hg, hn, q⟩

theorem calmE_pure {P : Program} {o : Oper} (hk : kindOf P o = 1) (ρ : Operand → Value) (h h' : Heap) : calmE P o ρ h = calmE P o ρ h' := by
  obtain ⟨dst, op, ty, pos, after, guard⟩ := o
  cases op <;> simp only [kindOf] at hk <;> (try (cases hk; done)) <;> (try rfl)
  case slice t x lo hi mx =>
    simp only [calmE, sliceE]
    split at hk
    · cases hk
    · rename_i hns
      split <;> first | rfl | (exact (hns _ (by assumption)).elim)
  case convert s d x =>
    simp only [calmE]
    have hs : ∀ h, strOfE P s d (ρ x) h = none := by
      intro h
      unfold strOfE
      split at hk
      · cases hk
      · cases hk
      · rename_i h1 h2
        split
        · exact (h1 _ (by assumption)).elim
        · exact (h1 _ (by assumption)).elim
        · rfl
    simp only [hs]
  case call c =>
    simp only [calmE]
    split
    · rename_i b hb
      rw [hb] at hk
      simp only at hk
      split
      · rfl
      · split
        · simp only at hk
          unfold mapLenE
          split at hk
          · rename_i t rest ht
            rw [ht]
            split at hk
            · cases hk
            · rename_i hnm
              split
              · rename_i t' rest' x' he1 he2
                cases he1
                split
                · exact (hnm _ _ (by assumption)).elim
                · split
                  · exact (hnm _ _ (by assumption)).elim
                  · rfl
              · rfl
          · cases hk
        · rfl
    · rfl

/-- A region whose order is drawn, in a row in which what reads alone comes as soon as it may. -/
def drawW (P : Program) (C : CallW) (ops : Array Oper) (Q : APost) : List Nat → Inv → ANextK
  | [], _, fr, h, n => Q .normal fr h n
  | i :: rest, inv, fr, h, n => match ops[i]? with
    | none => False
    | some o =>
      if kindOf P o = 0 then
        opW P C ops o fr h n (fun fr' h' n' => (∀ x ∈ inv.filter (fun x => !dep ops i x.1), x.2 h') ∧ drawW P C ops Q rest (inv.filter fun x => !dep ops i x.1) fr' h' n') (fun v h' n' => Q (.pan v) fr h' n')
      else if wantedA ops o fr then
        okOper P.globals.size o = true ∧ match calmE P o fr.eval h with
          | some v => drawW P C ops Q rest (if kindOf P o = 1 then inv else (i, fun h' => calmE P o fr.eval h' = some v) :: inv) (fr.put o.dst v) h n
          | none => False
      else drawW P C ops Q rest inv (fr.put o.dst undef) h n

def planOk (P : Program) (ops : Array Oper) : List Nat → Array Bool → Bool
  | [], listed => (Region.ready .any ops listed).isEmpty
  | i :: rest, listed => (match ops[i]? with
    | none => false
    | some o => if kindOf P o = 0 then Region.ready .any ops listed == [i] else (Region.ready .any ops listed).contains i && Region.free .any ops listed i) && planOk P ops rest (listed.setIfInBounds i true)

def actOf (P : Program) (ops : Array Oper) (i : Nat) : Bool := match ops[i]? with
  | some o => kindOf P o == 0
  | none => false

section
variable {P : Program} {ops : Array Oper} {Q : APost}

theorem AAny.add {inv : Inv} {k : Nat} {Y : Heap → Prop} (hY : ∀ h, Y h) : ∀ {f : Nat} {listed : Array Bool} {fr : AAct} {h : Heap} {n : Nat}, AAny P (actOf P ops) ops Q inv f listed fr h n → AAny P (actOf P ops) ops Q ((k, Y) :: inv) f listed fr h n := by
  intro f
  induction f with
  | zero => intro listed fr h n q; exact q
  | succ f ih =>
    intro listed fr h n q
    refine ⟨q.1, fun i hi => (q.2 i hi).mono fun fr' h' n' _ _ k => ⟨?_, ih k.2⟩⟩
    intro x hx hall
    rcases List.mem_cons.1 hx with rfl | hx
    · exact hY h'
    · exact k.1 x hx hall

/-- What is dropped of an invariant, was to be dropped. -/
def Dropped (P : Program) (ops : Array Oper) (listed : Array Bool) (inv inv' : Inv) : Prop :=
  ∀ x ∈ inv, x ∈ inv' ∨ ∃ j, actOf P ops j = true ∧ listed.getD j false = true ∧ dep ops j x.1 = true

theorem AAny.drop {inv inv' : Inv} : ∀ {f : Nat} {listed : Array Bool} {fr : AAct} {h : Heap} {n : Nat}, Dropped P ops listed inv inv' → AAny P (actOf P ops) ops Q inv' f listed fr h n → AAny P (actOf P ops) ops Q inv f listed fr h n := by
  intro f
  induction f with
  | zero => intro listed fr h n _ q; exact q
  | succ f ih =>
    intro listed fr h n hd q
    have hd' : ∀ i, Dropped P ops (listed.setIfInBounds i true) inv inv' := by
      intro i x hx
      rcases hd x hx with h | ⟨j, h1, h2, h3⟩
      · exact .inl h
      · exact .inr ⟨j, h1, getD_set_true h2, h3⟩
    refine ⟨q.1, fun i hi => (q.2 i hi).mono fun fr' h' n' _ _ k => ⟨?_, ih (hd' i) k.2⟩⟩
    intro x hx hall
    rcases hd' i x hx with h | ⟨j, h1, h2, h3⟩
    · exact k.1 x h hall
    · rw [hall j h1 h2] at h3; cases h3

theorem opW_pan {o : Oper} {fr : AAct} {h : Heap} {n : Nat} {K : ANextK} {Qp Qp' : Value → Heap → Nat → Prop} (hp : ∀ v h n, Qp v h n → Qp' v h n)
    (q : opW P (acall P) ops o fr h n K Qp) : opW P (acall P) ops o fr h n K Qp' := by
  unfold opW at *
  split
  · rename_i hw
    rw [if_pos hw] at q
    refine ⟨q.1, ?_⟩
    have q2 := q.2
    split
    · rename_i v hv; rw [hv] at q2; exact q2
    · rename_i hv
      rw [hv] at q2
      simp only at q2
      split
      · rename_i x hx; rw [hx] at q2; exact resW_mono (fun _ _ _ q => q) hp q2
      · rename_i hx; rw [hx] at q2; exact q2
  · rename_i hw
    rw [if_neg hw] at q
    exact q

theorem AAny.of_drawW (ok : POk P) (hsel : Region.noSelect ops = true) {S : List Nat} (hS : avoids S ops = true) (hpan : PanExt S Q) : ∀ (plan : List Nat) (inv : Inv) (listed : Array Bool) (fr : AAct) (h : Heap) (n : Nat),
    listed.size = ops.size → Closed ops listed → planOk P ops plan listed = true → (∀ x ∈ inv, x.2 h) → drawW P (acall P) ops Q plan inv fr h n → AAny P (actOf P ops) ops (EQ Q) inv plan.length listed fr h n := by
  intro plan
  induction plan with
  | nil =>
    intro inv listed fr h n _ _ hp _ q
    refine ⟨?_, fr, .refl fr, q⟩
    simpa [planOk] using hp
  | cons i rest ih =>
    intro inv listed fr h n hsz hcl hp hinv q
    simp only [planOk, Bool.and_eq_true] at hp
    obtain ⟨hp1, hp2⟩ := hp
    simp only [drawW] at q
    cases ho : ops[i]? with
    | none => rw [ho] at q; exact q.elim
    | some o =>
      rw [ho] at q hp1
      simp only at q hp1
      have hsz' : (listed.setIfInBounds i true).size = ops.size := by simp [hsz]
      have hpan' : ∀ x fr h n (v : Value), EQ Q (.pan x) (fr.put o.dst v) h n → EQ Q (.pan x) fr h n := by
        rintro x fr h n v ⟨fr0, e0, q0⟩
        refine ⟨fr, .refl fr, hpan x fr0 fr h n (by rw [e0.defers, AAct.defers_put]) (fun t ht => ?_) q0⟩
        rw [e0.get]
        have hav := List.all_eq_true.1 hS o (Array.mem_toList_iff.2 (Array.mem_of_getElem? ho))
        cases hd : o.dst with
        | none => rfl
        | some d =>
          rw [hd] at hav
          rw [AAct.get_put, if_neg]
          rintro ⟨rfl, _⟩
          simp at hav
          exact hav ht
      by_cases hk : kindOf P o = 0
      · rw [if_pos hk] at q hp1
        have hready : Region.ready .any ops listed = [i] := by simpa using hp1
        have hi : i ∈ Region.ready .any ops listed := by rw [hready]; simp
        have hact : actOf P ops i = true := by simp [actOf, ho, hk]
        simp only [List.length_cons]
        refine ⟨fun h0 => by rw [h0] at hready; simp at hready, fun j hj => ?_⟩
        rw [hready] at hj
        simp only [List.mem_singleton] at hj
        subst hj
        have hdrop : Dropped P ops (listed.setIfInBounds j true) inv (inv.filter fun x => !dep ops j x.1) := by
          intro x hx
          by_cases hd : dep ops j x.1 = true
          · refine .inr ⟨j, hact, ?_, hd⟩
            have hlt : j < listed.size := by rw [hsz]; exact (Array.getElem?_eq_some_iff.1 ho).1
            rw [Array.getD_eq_getD_getElem?, Array.getElem?_setIfInBounds_self_of_lt hlt]; rfl
          · exact .inl (List.mem_filter.2 ⟨hx, by simpa using hd⟩)
        have hop : AOp P ops (EQ Q) j (fun fr' h' n' => (∀ x ∈ inv.filter (fun x => !dep ops j x.1), x.2 h') ∧ drawW P (acall P) ops Q rest (inv.filter fun x => !dep ops j x.1) fr' h' n') fr h n := by
          refine AOp.of_opW ok ho ?_
          exact opW_pan (fun v h n q => ⟨fr, .refl fr, q⟩) q
        refine hop.mono fun fr' h' n' _ _ k => ⟨?_, ?_⟩
        · intro x hx hall
          rcases hdrop x hx with h | ⟨j', h1, h2, h3⟩
          · exact k.1 x h
          · rw [hall j' h1 h2] at h3; cases h3
        · exact AAny.drop hdrop (ih _ _ fr' h' n' hsz' (hcl.step hi) hp2 k.1 k.2)
      · rw [if_neg hk] at q hp1
        simp only [Bool.and_eq_true] at hp1
        have hi : i ∈ Region.ready .any ops listed := by simpa using hp1.1
        have hact : actOf P ops i = false := by simp [actOf, ho, hk]
        have hli : listed.getD i false = false := by
          have := (mem_ready.1 hi).1
          rw [Array.getD_eq_getD_getElem?] at this ⊢
          cases hx : listed[i]? with
          | none => rfl
          | some b => rw [hx] at this; simpa using this
        have hfirst := fun (v : Value) (Y : Heap → Prop) => AAny.first (P := P) (act := actOf P ops) (ops := ops) (Q := EQ Q) (i := i) (oi := o) (v := v) ho hsel hact (fun x fr h n => hpan' x fr h n v) (EQ.ext Q) inv Y
          rest.length listed fr h n (Region.free_spec ho hp1.2) hcl hli hi
        have hinvH : inv.holds (actOf P ops) ops listed h := fun x hx _ => hinv x hx
        by_cases hw : wantedA ops o fr = true
        · rw [if_pos hw] at q
          obtain ⟨hok, q⟩ := q
          split at q
          · rename_i v hv
            by_cases hk1 : kindOf P o = 1
            · rw [if_pos hk1] at q
              refine hfirst v (fun _ => True) (fun h' _ => by unfold Calm; rw [if_pos hw]; exact ⟨hok, calmE_sound (by rw [calmE_pure hk1 _ h' h]; exact hv)⟩) trivial hinvH ?_
              exact AAny.add (fun _ => trivial) (ih inv _ _ h n hsz' (hcl.step hi) hp2 hinv q)
            · rw [if_neg hk1] at q
              refine hfirst v (fun h' => calmE P o fr.eval h' = some v) (fun h' hc => by unfold Calm; rw [if_pos hw]; exact ⟨hok, calmE_sound hc⟩) hv hinvH ?_
              refine ih _ _ _ h n hsz' (hcl.step hi) hp2 ?_ q
              intro x hx
              rcases List.mem_cons.1 hx with rfl | hx
              · exact hv
              · exact hinv x hx
          · exact q.elim
        · rw [if_neg hw] at q
          refine hfirst undef (fun _ => True) (fun h' _ => by unfold Calm; rw [if_neg hw]) trivial hinvH ?_
          exact AAny.add (fun _ => trivial) (ih inv _ _ h n hsz' (hcl.step hi) hp2 hinv q)

theorem AWp.draw_region (ok : POk P) {id : Nat} (plan : List Nat) (hsel : Region.noSelect ops = true) (hp : planOk P ops plan (Array.replicate ops.size false) = true) (hlen : plan.length = ops.size) {S : List Nat} (hS : avoids S ops = true) (hpan : PanExt S Q) {fr : AAct} {h : Heap} {n : Nat}
    (q : drawW P (acall P) ops Q plan [] fr h n) : AWp P (.region id ops true) Q fr h n := by
  intro μ a w hf hr
  refine wp_region_any ok.mixed ?_
  have hcl : Closed ops (Array.replicate ops.size false) := by
    intro j k hj
    rw [Array.getD_eq_getD_getElem?, Array.getElem?_replicate] at hj
    split at hj <;> simp at hj
  have := AAny.of_drawW ok hsel hS hpan plan [] (Array.replicate ops.size false) fr h n (by simp) hcl hp (by simp) q
  rw [hlen] at this
  have hs := AAny.sound _ _ _ _ _ this μ a { w with drawn := w.drawn + 1 } hf (Rel.of_heap (w := w) rfl hr)
  refine wpAny_post ?_ hs
  intro e a' w' l
  exact (lift_EQ e a' w' l).trans (Grow.drew μ h w _) (Nat.le_refl _)
end
end Go.Abs
