/- texts of the claim, part 5: AbsF AbsG Runes Lab1 LabB LabShelf LabTabs RuneLaw LabRune LabV LabW LabM. -/
import Derived.Test.YtkpjfibpaojelaaGreatDoorPs4
import Derived.Lib.ValidLaws
import Derived.Lib.TrimUEq
import Derived.Test.YtkpjfibpaojelaaGreatDoorRows
import Derived.Test.YtkpjfibpaojelaaGreatDoorTie
import Derived.Shelf.Unicode.ValidAny
import Derived.Ground.NamesProg
import Derived.Test.YtkpjfibpaojelaaGreatDoorProg
/- Regions whose order is drawn, in which blocks turn that are not read: what is kept, told block by block. -/
namespace Go.Abs
open Go
/-- These blocks stay. -/
def KeepK (K : List Nat) (h h' : Heap) : Prop := ∀ b ∈ K, ∀ o, h.get b = some o → h'.get b = some o
theorem KeepK.trans {K : List Nat} {h h1 h2 : Heap} (a : KeepK K h h1) (b : KeepK K h1 h2) : KeepK K h h2 := fun c hc o e => b c hc o (a c hc o e)
theorem KeepK.of {K S : List Nat} {h h1 : Heap} (hK : ∀ b ∈ K, b ∉ S) (s : SubBut h h1 S) : KeepK K h h1 := fun c hc o e => s c o (hK c hc) e
theorem keepN {S : List Nat} : ∀ b ∈ ([] : List Nat), b ∉ S := fun _ h => by cases h
theorem keepC {S K : List Nat} {b : Nat} (h : b ∉ S) (k : ∀ c ∈ K, c ∉ S) : ∀ c ∈ b :: K, c ∉ S := fun c hc => (List.mem_cons.1 hc).elim (fun e => e ▸ h) (k c)
/-- The rest of a region in any row; what was read lies in blocks that stay. -/
structure DK (P : Program) (ops : Array Oper) (Q : APost) (K : List Nat) (plan : List Nat) (vs : List Value) (h : Heap) (n : Nat) : Prop where
  run : ∀ inv : Inv, (∀ x ∈ inv, ∀ h', KeepK K h h' → x.2 h') → drawW P (acall P) ops Q plan inv (frameV vs) h n
section
variable {P : Program} {Q : APost} {vs vs' : List Value} {h : Heap} {n : Nat} {ops : Array Oper} {o : Oper} {d : Nat} {K S S' : List Nat} {i : Nat} {plan : List Nat} {R : Value → Heap → Nat → Prop} {v : Value} {f : FuncId} {xs : List Value} {l : List Oper}
theorem AWp.anyK (ok : POk P) {id : Nat} (plan : List Nat) (hsel : Region.noSelect ops = true) (hp : planOk P ops plan (Array.replicate ops.size false) = true) (hlen : plan.length = ops.size) (hpan : PanExt [] Q)
    (q : DK P ops Q [] plan vs h n) : AWp P (.region id ops true) Q (frameV vs) h n :=
  AWp.draw_region ok plan hsel hp hlen (S := []) (avoids_nil ops) hpan (q.run [] (by simp))
theorem dk.e (q : Q .normal (frameV vs) h n) : DK P ops Q K [] vs h n := ⟨fun _ _ => q⟩
theorem dk.c {v : Value} (ho : l[i]? = some o) (hk : kindOf P o = 1) (hw : wantedA l.toArray o (frameV vs) = true) (hok : okOper P.globals.size o = true) (hv : calmE P o (evalV vs) h = some v) (hd : o.dst = some d) [z : SetL vs d v vs']
    (k : DK P l.toArray Q K plan vs' h n) : DK P l.toArray Q K (i :: plan) vs h n := by
  refine ⟨fun inv hinv => ?_⟩
  have hz : vs' = setV vs o.dst v := by rw [hd]; exact z.eq.symm
  rw [hz] at k
  simp only [drawW, at_arr ho, hk, if_neg (show ¬ (1 : Nat) = 0 by decide), hw, if_true, frameV_eval, frameV_put]
  refine ⟨hok, ?_⟩
  rw [hv]
  exact k.run inv hinv
theorem dk.gB {v : Value} (b : Nat) (ho : l[i]? = some o) (hk : (kindOf P o != 0) = true) (hw : wantedA l.toArray o (frameV vs) = true) (hok : okOper P.globals.size o = true) (hv : ∀ h', (∀ o, h.get b = some o → h'.get b = some o) → calmE P o (evalV vs) h' = some v) (hd : o.dst = some d) [z : SetL vs d v vs']
    (k : DK P l.toArray Q (b :: K) plan vs' h n) : DK P l.toArray Q K (i :: plan) vs h n := by
  refine ⟨fun inv hinv => ?_⟩
  have hk' : kindOf P o ≠ 0 := by simpa using hk
  have hz : vs' = setV vs o.dst v := by rw [hd]; exact z.eq.symm
  rw [hz] at k
  simp only [drawW, at_arr ho, if_neg hk', hw, if_true, frameV_eval, frameV_put]
  refine ⟨hok, ?_⟩
  rw [hv h fun _ e => e]
  simp only
  have hinv' : ∀ x ∈ inv, ∀ h', KeepK (b :: K) h h' → x.2 h' := fun x hx h' hs => hinv x hx h' fun c hc => hs c (List.mem_cons_of_mem _ hc)
  split
  · exact k.run inv hinv'
  · refine k.run _ ?_
    intro x hx h' hs
    rcases List.mem_cons.1 hx with rfl | hx
    · exact hv h' (hs b (List.mem_cons_self ..))
    · exact hinv' x hx h' hs
theorem dk.op (ho : l[i]? = some o) (hk : kindOf P o = 0) (hw : wantedA l.toArray o (frameV vs) = true) (hok : okOper P.globals.size o = true) (q : Does P o (evalV vs) h n S' R) (hK : ∀ b ∈ K, b ∉ S')
    (k : ∀ v h2 n2, R v h2 n2 → SubBut h h2 S' → n ≤ n2 → Free h2 n2 → DK P l.toArray Q K plan (setV vs o.dst v) h2 n2) : DK P l.toArray Q K (i :: plan) vs h n := by
  obtain ⟨hc, x, v, h', n', hv, hx, hs, hn, hf, hr⟩ := q
  have k := k v h' n' hr hs hn hf
  refine ⟨fun inv hinv => ?_⟩
  simp only [drawW, at_arr ho, hk, if_true, opW, hw, frameV_eval]
  refine ⟨hok, ?_⟩
  rw [hc, hv]
  have hs' := KeepK.of hK hs
  have k' := k.run (inv.filter fun x => !dep l.toArray i x.1) fun x hx h2 hs2 => hinv x (List.mem_filter.1 hx).1 h2 (hs'.trans hs2)
  have hq : ∀ x ∈ inv.filter (fun x => !dep l.toArray i x.1), x.2 h' := fun x hx => hinv x (List.mem_filter.1 hx).1 h' hs'
  rcases hx with rfl | ⟨rfl, rfl⟩
  · simp only [resW, frameV_put]; exact ⟨hq, k'⟩
  · simp only [resW, frameV_put]; exact ⟨hq, k'⟩
theorem dk.k (ho : l[i]? = some o) (hk : kindOf P o = 0) (hw : wantedA l.toArray o (frameV vs) = true) (hc : CallsF P o (evalV vs) f xs) (c : Makes P f xs h n S' R) (hK : ∀ b ∈ K, b ∉ S')
    (k : ∀ v h2 n2, R v h2 n2 → SubBut h h2 S' → n ≤ n2 → Free h2 n2 → DK P l.toArray Q K plan (setV vs o.dst v) h2 n2) : DK P l.toArray Q K (i :: plan) vs h n := by
  obtain ⟨hok, hc1, hc2⟩ := hc
  refine ⟨fun inv hinv => ?_⟩
  simp only [drawW, at_arr ho, hk, if_true, opW, hw, frameV_eval]
  refine ⟨hok, ?_⟩
  rw [hc1, hc2]
  simp only [resW]
  refine ACall.mono c ?_
  rintro r h1 n1 _ hfr ⟨v, rfl, hs, hn, hr⟩
  refine ⟨h1, Heap.sub_refl _, ?_⟩
  have hs' := KeepK.of hK hs
  simp only [frameV_put]
  exact ⟨fun x hx => hinv x (List.mem_filter.1 hx).1 h1 hs', (k v h1 n1 hr hs hn hfr).run _ fun x hx h2 hs2 => hinv x (List.mem_filter.1 hx).1 h2 (hs'.trans hs2)⟩
theorem dk.t {v : Value} (ho : l[i]? = some o) (hk : kindOf P o = 0) (hw : wantedA l.toArray o (frameV vs) = true) (hc : CallsF P o (evalV vs) f xs) (c : Free h n → Tells P f xs h n v) (hf : Free h n) (hd : o.dst = some d) [z : SetL vs d v vs']
    (k : ∀ n2, n ≤ n2 → Free h n2 → DK P l.toArray Q K plan vs' h n2) : DK P l.toArray Q K (i :: plan) vs h n := by
  refine dk.k ho hk hw hc (Tells.makes (S := []) (c hf)) (fun b _ hm => by simp at hm) ?_
  rintro u h2 n2 ⟨rfl, rfl⟩ _ hn hf2
  rw [hd, show setV vs (some d) u = vs' from z.eq]
  exact k n2 hn hf2
theorem dk.w [z : SetL vs d v vs'] (k : DK P ops Q K plan vs' h n) : DK P ops Q K plan (setV vs (some d) v) h n := by
  rw [show setV vs (some d) v = vs' from z.eq]; exact k
end
theorem strOf_row {P : Program} {a b e : TypeId} {h : Heap} {v : Value} {bs : List UInt8} (hc : convE P a b (.slice none 0 0) = some (.string ⟨#[]⟩)) (ha : P.underlying a = some (.slice e)) (hb : P.underlying b = some .string) (he : P.underlying e = some (.int .u8)) (q : IsRow encByte h v bs) :
    (match convE P a b v with | some v => some v | none => strOfE P a b v h) = some (.string ⟨bs.toArray⟩) := by
  have h1 : ∀ x l c, convE P a b (.slice (some x) l c) = none := by
    intro x l c
    unfold convE
    rw [ha, hb]
    rfl
  have h2 := q.str ha hb he
  obtain ⟨x, c, rfl⟩ := q.slice
  cases x with
  | some x => rw [h1]; exact h2
  | none =>
    rcases q with ⟨rfl, e | ⟨b', o, cap, e⟩⟩ | ⟨b', o, cap, cs, own, ci, e, h1, h2, h3, h4⟩
    · cases e; rw [show (convE P a b (.slice none ([] : List UInt8).length 0)) = _ from hc]
    · cases e
    · cases e
end Go.Abs
/- Regions whose order is drawn, in which two acting operations may be ready at once: plans that fork. -/
namespace Go.Abs
open Go
inductive PlanT where
  | e
  | s (i : Nat) (r : PlanT)
  | f (i j : Nat) (p q : PlanT)
def PlanT.len : PlanT → Nat
  | .e => 0
  | .s _ r => r.len + 1
  | .f _ _ p _ => p.len + 1
def drawT (P : Program) (C : CallW) (ops : Array Oper) (Q : APost) : PlanT → Inv → ANextK
  | .e, _, fr, h, n => Q .normal fr h n
  | .s i rest, inv, fr, h, n => match ops[i]? with
    | none => False
    | some o =>
      if kindOf P o = 0 then
        opW P C ops o fr h n (fun fr' h' n' => (∀ x ∈ inv.filter (fun x => !dep ops i x.1), x.2 h') ∧ drawT P C ops Q rest (inv.filter fun x => !dep ops i x.1) fr' h' n') (fun v h' n' => Q (.pan v) fr h' n')
      else if wantedA ops o fr then
        okOper P.globals.size o = true ∧ match calmE P o fr.eval h with
          | some v => drawT P C ops Q rest (if kindOf P o = 1 then inv else (i, fun h' => calmE P o fr.eval h' = some v) :: inv) (fr.put o.dst v) h n
          | none => False
      else drawT P C ops Q rest inv (fr.put o.dst undef) h n
  | .f i j p q, inv, fr, h, n =>
    (match ops[i]? with
      | none => False
      | some o => opW P C ops o fr h n (fun fr' h' n' => (∀ x ∈ inv.filter (fun x => !dep ops i x.1), x.2 h') ∧ drawT P C ops Q p (inv.filter fun x => !dep ops i x.1) fr' h' n') (fun v h' n' => Q (.pan v) fr h' n')) ∧
    (match ops[j]? with
      | none => False
      | some o => opW P C ops o fr h n (fun fr' h' n' => (∀ x ∈ inv.filter (fun x => !dep ops j x.1), x.2 h') ∧ drawT P C ops Q q (inv.filter fun x => !dep ops j x.1) fr' h' n') (fun v h' n' => Q (.pan v) fr h' n'))
def planOkT (P : Program) (ops : Array Oper) : PlanT → Array Bool → Bool
  | .e, listed => (Region.ready .any ops listed).isEmpty
  | .s i rest, listed => (match ops[i]? with
    | none => false
    | some o => if kindOf P o = 0 then Region.ready .any ops listed == [i] else (Region.ready .any ops listed).contains i && Region.free .any ops listed i) && planOkT P ops rest (listed.setIfInBounds i true)
  | .f i j p q, listed => (match ops[i]?, ops[j]? with
    | some o, some o' => kindOf P o == 0 && kindOf P o' == 0
    | _, _ => false) && (Region.ready .any ops listed == [i, j] && (p.len == q.len && (planOkT P ops p (listed.setIfInBounds i true) && planOkT P ops q (listed.setIfInBounds j true))))
section
variable {P : Program} {ops : Array Oper} {Q : APost}
theorem actStep (ok : POk P) {inv : Inv} {i f : Nat} {o : Oper} {listed : Array Bool} {fr : AAct} {h : Heap} {n : Nat} {D : ANextK} (ho : ops[i]? = some o) (hk : kindOf P o = 0) (hsz : listed.size = ops.size)
    (cont : ∀ fr' h' n', (∀ x ∈ inv.filter (fun x => !dep ops i x.1), x.2 h') → D fr' h' n' → AAny P (actOf P ops) ops (EQ Q) (inv.filter fun x => !dep ops i x.1) f (listed.setIfInBounds i true) fr' h' n')
    (q : opW P (acall P) ops o fr h n (fun fr' h' n' => (∀ x ∈ inv.filter (fun x => !dep ops i x.1), x.2 h') ∧ D fr' h' n') (fun v h' n' => Q (.pan v) fr h' n')) :
    AOp P ops (EQ Q) i (fun fr' h' n' => inv.holds (actOf P ops) ops (listed.setIfInBounds i true) h' ∧ AAny P (actOf P ops) ops (EQ Q) inv f (listed.setIfInBounds i true) fr' h' n') fr h n := by
  have hact : actOf P ops i = true := by simp [actOf, ho, hk]
  have hdrop : Dropped P ops (listed.setIfInBounds i true) inv (inv.filter fun x => !dep ops i x.1) := by
    intro x hx
    by_cases hd : dep ops i x.1 = true
    · refine .inr ⟨i, hact, ?_, hd⟩
      have hlt : i < listed.size := by rw [hsz]; exact (Array.getElem?_eq_some_iff.1 ho).1
      rw [Array.getD_eq_getD_getElem?, Array.getElem?_setIfInBounds_self_of_lt hlt]; rfl
    · exact .inl (List.mem_filter.2 ⟨hx, by simpa using hd⟩)
  have hop : AOp P ops (EQ Q) i (fun fr' h' n' => (∀ x ∈ inv.filter (fun x => !dep ops i x.1), x.2 h') ∧ D fr' h' n') fr h n := by
    refine AOp.of_opW ok ho ?_
    exact opW_pan (fun v h n q => ⟨fr, .refl fr, q⟩) q
  refine hop.mono fun fr' h' n' _ _ k => ⟨?_, ?_⟩
  · intro x hx hall
    rcases hdrop x hx with h | ⟨j', h1, h2, h3⟩
    · exact k.1 x h
    · rw [hall j' h1 h2] at h3; cases h3
  · exact AAny.drop hdrop (cont fr' h' n' k.1 k.2)
theorem AAny.of_drawT (ok : POk P) (hsel : Region.noSelect ops = true) {S : List Nat} (hS : avoids S ops = true) (hpan : PanExt S Q) : ∀ (plan : PlanT) (inv : Inv) (listed : Array Bool) (fr : AAct) (h : Heap) (n : Nat),
    listed.size = ops.size → Closed ops listed → planOkT P ops plan listed = true → (∀ x ∈ inv, x.2 h) → drawT P (acall P) ops Q plan inv fr h n → AAny P (actOf P ops) ops (EQ Q) inv plan.len listed fr h n := by
  intro plan
  induction plan with
  | e =>
    intro inv listed fr h n _ _ hp _ q
    refine ⟨?_, fr, .refl fr, q⟩
    simpa [planOkT] using hp
  | f i j p q ihp ihq =>
    intro inv listed fr h n hsz hcl hp hinv d
    simp only [planOkT, Bool.and_eq_true] at hp
    obtain ⟨hk, hr, hl, hp1, hp2⟩ := hp
    have hready : Region.ready .any ops listed = [i, j] := by simpa using hr
    have hlen : p.len = q.len := by simpa using hl
    have hi : i ∈ Region.ready .any ops listed := by rw [hready]; simp
    have hj : j ∈ Region.ready .any ops listed := by rw [hready]; simp
    simp only [drawT] at d
    cases ho : ops[i]? with
    | none => rw [ho] at hk; simp at hk
    | some oi =>
      cases ho' : ops[j]? with
      | none => rw [ho, ho'] at hk; simp at hk
      | some oj =>
        rw [ho, ho'] at hk d
        simp only [Bool.and_eq_true, beq_iff_eq] at hk d
        refine ⟨fun h0 => by rw [h0] at hready; simp at hready, fun k hk' => ?_⟩
        rw [hready] at hk'
        simp only [List.mem_cons, List.not_mem_nil, or_false] at hk'
        rcases hk' with rfl | rfl
        · exact actStep ok ho hk.1 hsz (fun fr' h' n' a b => ihp _ _ fr' h' n' (by simp [hsz]) (hcl.step hi) hp1 a b) d.1
        · refine actStep ok ho' hk.2 hsz (fun fr' h' n' a b => ?_) d.2
          rw [hlen]
          exact ihq _ _ fr' h' n' (by simp [hsz]) (hcl.step hj) hp2 a b
  | s i rest ih =>
    intro inv listed fr h n hsz hcl hp hinv q
    simp only [planOkT, Bool.and_eq_true] at hp
    obtain ⟨hp1, hp2⟩ := hp
    simp only [drawT] at q
    cases ho : ops[i]? with
    | none => rw [ho] at q; exact q.elim
    | some o =>
      rw [ho] at q hp1
      simp only at q hp1
      have hsz' : (listed.setIfInBounds i true).size = ops.size := by simp [hsz]
      have hpan' : ∀ x fr h n (v : Value), EQ Q (.pan x) (fr.put o.dst v) h n → EQ Q (.pan x) fr h n := by
        rintro x fr h n v ⟨fr0, e0, q0⟩
        refine ⟨fr, .refl fr, hpan x fr0 fr h n (by rw [e0.defers, AAct.defers_put]) (fun t ht => ?_) q0⟩
        rw [e0.get]
        have hav := List.all_eq_true.1 hS o (Array.mem_toList_iff.2 (Array.mem_of_getElem? ho))
        cases hd : o.dst with
        | none => rfl
        | some d =>
          rw [hd] at hav
          rw [AAct.get_put, if_neg]
          rintro ⟨rfl, _⟩
          simp at hav
          exact hav ht
      by_cases hk : kindOf P o = 0
      · rw [if_pos hk] at q hp1
        have hready : Region.ready .any ops listed = [i] := by simpa using hp1
        have hi : i ∈ Region.ready .any ops listed := by rw [hready]; simp
        have hact : actOf P ops i = true := by simp [actOf, ho, hk]
        show AAny P (actOf P ops) ops (EQ Q) inv (rest.len + 1) listed fr h n
        refine ⟨fun h0 => by rw [h0] at hready; simp at hready, fun j hj => ?_⟩
        rw [hready] at hj
        simp only [List.mem_singleton] at hj
        subst hj
        have hdrop : Dropped P ops (listed.setIfInBounds j true) inv (inv.filter fun x => !dep ops j x.1) := by
          intro x hx
          by_cases hd : dep ops j x.1 = true
          · refine .inr ⟨j, hact, ?_, hd⟩
            have hlt : j < listed.size := by rw [hsz]; exact (Array.getElem?_eq_some_iff.1 ho).1
            rw [Array.getD_eq_getD_getElem?, Array.getElem?_setIfInBounds_self_of_lt hlt]; rfl
          · exact .inl (List.mem_filter.2 ⟨hx, by simpa using hd⟩)
        have hop : AOp P ops (EQ Q) j (fun fr' h' n' => (∀ x ∈ inv.filter (fun x => !dep ops j x.1), x.2 h') ∧ drawT P (acall P) ops Q rest (inv.filter fun x => !dep ops j x.1) fr' h' n') fr h n := by
          refine AOp.of_opW ok ho ?_
          exact opW_pan (fun v h n q => ⟨fr, .refl fr, q⟩) q
        refine hop.mono fun fr' h' n' _ _ k => ⟨?_, ?_⟩
        · intro x hx hall
          rcases hdrop x hx with h | ⟨j', h1, h2, h3⟩
          · exact k.1 x h
          · rw [hall j' h1 h2] at h3; cases h3
        · exact AAny.drop hdrop (ih _ _ fr' h' n' hsz' (hcl.step hi) hp2 k.1 k.2)
      · rw [if_neg hk] at q hp1
        simp only [Bool.and_eq_true] at hp1
        have hi : i ∈ Region.ready .any ops listed := by simpa using hp1.1
        have hact : actOf P ops i = false := by simp [actOf, ho, hk]
        have hli : listed.getD i false = false := by
          have := (mem_ready.1 hi).1
          rw [Array.getD_eq_getD_getElem?] at this ⊢
          cases hx : listed[i]? with
          | none => rfl
          | some b => rw [hx] at this; simpa using this
        have hfirst := fun (v : Value) (Y : Heap → Prop) => AAny.first (P := P) (act := actOf P ops) (ops := ops) (Q := EQ Q) (i := i) (oi := o) (v := v) ho hsel hact (fun x fr h n => hpan' x fr h n v) (EQ.ext Q) inv Y
          rest.len listed fr h n (Region.free_spec ho hp1.2) hcl hli hi
        have hinvH : inv.holds (actOf P ops) ops listed h := fun x hx _ => hinv x hx
        by_cases hw : wantedA ops o fr = true
        · rw [if_pos hw] at q
          obtain ⟨hok, q⟩ := q
          split at q
          · rename_i v hv
            by_cases hk1 : kindOf P o = 1
            · rw [if_pos hk1] at q
              refine hfirst v (fun _ => True) (fun h' _ => by unfold Calm; rw [if_pos hw]; exact ⟨hok, calmE_sound (by rw [calmE_pure hk1 _ h' h]; exact hv)⟩) trivial hinvH ?_
              exact AAny.add (fun _ => trivial) (ih inv _ _ h n hsz' (hcl.step hi) hp2 hinv q)
            · rw [if_neg hk1] at q
              refine hfirst v (fun h' => calmE P o fr.eval h' = some v) (fun h' hc => by unfold Calm; rw [if_pos hw]; exact ⟨hok, calmE_sound hc⟩) hv hinvH ?_
              refine ih _ _ _ h n hsz' (hcl.step hi) hp2 ?_ q
              intro x hx
              rcases List.mem_cons.1 hx with rfl | hx
              · exact hv
              · exact hinv x hx
          · exact q.elim
        · rw [if_neg hw] at q
          refine hfirst undef (fun _ => True) (fun h' _ => by unfold Calm; rw [if_neg hw]) trivial hinvH ?_
          exact AAny.add (fun _ => trivial) (ih inv _ _ h n hsz' (hcl.step hi) hp2 hinv q)
theorem AWp.draw_regionT (ok : POk P) {id : Nat} (plan : PlanT) (hsel : Region.noSelect ops = true) (hp : planOkT P ops plan (Array.replicate ops.size false) = true) (hlen : plan.len = ops.size) {S : List Nat} (hS : avoids S ops = true) (hpan : PanExt S Q) {fr : AAct} {h : Heap} {n : Nat}
    (q : drawT P (acall P) ops Q plan [] fr h n) : AWp P (.region id ops true) Q fr h n := by
  intro μ a w hf hr
  refine wp_region_any ok.mixed ?_
  have hcl : Closed ops (Array.replicate ops.size false) := by
    intro j k hj
    rw [Array.getD_eq_getD_getElem?, Array.getElem?_replicate] at hj
    split at hj <;> simp at hj
  have := AAny.of_drawT ok hsel hS hpan plan [] (Array.replicate ops.size false) fr h n (by simp) hcl hp (by simp) q
  rw [hlen] at this
  have hs := AAny.sound _ _ _ _ _ this μ a { w with drawn := w.drawn + 1 } hf (Rel.of_heap (w := w) rfl hr)
  refine wpAny_post ?_ hs
  intro e a' w' l
  exact (lift_EQ e a' w' l).trans (Grow.drew μ h w _) (Nat.le_refl _)
end
/-- The rest of a region in any row; what was read lies in blocks that stay. -/
structure DT (P : Program) (ops : Array Oper) (Q : APost) (K : List Nat) (plan : PlanT) (vs : List Value) (h : Heap) (n : Nat) : Prop where
  run : ∀ inv : Inv, (∀ x ∈ inv, ∀ h', KeepK K h h' → x.2 h') → drawT P (acall P) ops Q plan inv (frameV vs) h n
section
variable {P : Program} {Q : APost} {vs vs' : List Value} {h : Heap} {n : Nat} {ops : Array Oper} {o : Oper} {d : Nat} {K S S' : List Nat} {i : Nat} {plan : PlanT} {R : Value → Heap → Nat → Prop} {v : Value} {f : FuncId} {xs : List Value} {l : List Oper}
theorem AWp.anyT (ok : POk P) {id : Nat} (plan : PlanT) (hsel : Region.noSelect ops = true) (hp : planOkT P ops plan (Array.replicate ops.size false) = true) (hlen : plan.len = ops.size) (hpan : PanExt [] Q)
    (q : DT P ops Q [] plan vs h n) : AWp P (.region id ops true) Q (frameV vs) h n :=
  AWp.draw_regionT ok plan hsel hp hlen (S := []) (avoids_nil ops) hpan (q.run [] (by simp))
theorem dt.e (q : Q .normal (frameV vs) h n) : DT P ops Q K .e vs h n := ⟨fun _ _ => q⟩
theorem dt.c {v : Value} (ho : l[i]? = some o) (hk : kindOf P o = 1) (hw : wantedA l.toArray o (frameV vs) = true) (hok : okOper P.globals.size o = true) (hv : calmE P o (evalV vs) h = some v) (hd : o.dst = some d) [z : SetL vs d v vs']
    (k : DT P l.toArray Q K plan vs' h n) : DT P l.toArray Q K (.s i plan) vs h n := by
  refine ⟨fun inv hinv => ?_⟩
  have hz : vs' = setV vs o.dst v := by rw [hd]; exact z.eq.symm
  rw [hz] at k
  simp only [drawT, at_arr ho, hk, if_neg (show ¬ (1 : Nat) = 0 by decide), hw, if_true, frameV_eval, frameV_put]
  refine ⟨hok, ?_⟩
  rw [hv]
  exact k.run inv hinv
theorem dt.gB {v : Value} (b : Nat) (ho : l[i]? = some o) (hk : (kindOf P o != 0) = true) (hw : wantedA l.toArray o (frameV vs) = true) (hok : okOper P.globals.size o = true) (hv : ∀ h', (∀ o, h.get b = some o → h'.get b = some o) → calmE P o (evalV vs) h' = some v) (hd : o.dst = some d) [z : SetL vs d v vs']
    (k : DT P l.toArray Q (b :: K) plan vs' h n) : DT P l.toArray Q K (.s i plan) vs h n := by
  refine ⟨fun inv hinv => ?_⟩
  have hk' : kindOf P o ≠ 0 := by simpa using hk
  have hz : vs' = setV vs o.dst v := by rw [hd]; exact z.eq.symm
  rw [hz] at k
  simp only [drawT, at_arr ho, if_neg hk', hw, if_true, frameV_eval, frameV_put]
  refine ⟨hok, ?_⟩
  rw [hv h fun _ e => e]
  simp only
  have hinv' : ∀ x ∈ inv, ∀ h', KeepK (b :: K) h h' → x.2 h' := fun x hx h' hs => hinv x hx h' fun c hc => hs c (List.mem_cons_of_mem _ hc)
  split
  · exact k.run inv hinv'
  · refine k.run _ ?_
    intro x hx h' hs
    rcases List.mem_cons.1 hx with rfl | hx
    · exact hv h' (hs b (List.mem_cons_self ..))
    · exact hinv' x hx h' hs
theorem dt.op (ho : l[i]? = some o) (hk : kindOf P o = 0) (hw : wantedA l.toArray o (frameV vs) = true) (hok : okOper P.globals.size o = true) (q : Does P o (evalV vs) h n S' R) (hK : ∀ b ∈ K, b ∉ S')
    (k : ∀ v h2 n2, R v h2 n2 → SubBut h h2 S' → n ≤ n2 → Free h2 n2 → DT P l.toArray Q K plan (setV vs o.dst v) h2 n2) : DT P l.toArray Q K (.s i plan) vs h n := by
  obtain ⟨hc, x, v, h', n', hv, hx, hs, hn, hf, hr⟩ := q
  have k := k v h' n' hr hs hn hf
  refine ⟨fun inv hinv => ?_⟩
  simp only [drawT, at_arr ho, hk, if_true, opW, hw, frameV_eval]
  refine ⟨hok, ?_⟩
  rw [hc, hv]
  have hs' := KeepK.of hK hs
  have k' := k.run (inv.filter fun x => !dep l.toArray i x.1) fun x hx h2 hs2 => hinv x (List.mem_filter.1 hx).1 h2 (hs'.trans hs2)
  have hq : ∀ x ∈ inv.filter (fun x => !dep l.toArray i x.1), x.2 h' := fun x hx => hinv x (List.mem_filter.1 hx).1 h' hs'
  rcases hx with rfl | ⟨rfl, rfl⟩
  · simp only [resW, frameV_put]; exact ⟨hq, k'⟩
  · simp only [resW, frameV_put]; exact ⟨hq, k'⟩
theorem dt.k (ho : l[i]? = some o) (hk : kindOf P o = 0) (hw : wantedA l.toArray o (frameV vs) = true) (hc : CallsF P o (evalV vs) f xs) (c : Makes P f xs h n S' R) (hK : ∀ b ∈ K, b ∉ S')
    (k : ∀ v h2 n2, R v h2 n2 → SubBut h h2 S' → n ≤ n2 → Free h2 n2 → DT P l.toArray Q K plan (setV vs o.dst v) h2 n2) : DT P l.toArray Q K (.s i plan) vs h n := by
  obtain ⟨hok, hc1, hc2⟩ := hc
  refine ⟨fun inv hinv => ?_⟩
  simp only [drawT, at_arr ho, hk, if_true, opW, hw, frameV_eval]
  refine ⟨hok, ?_⟩
  rw [hc1, hc2]
  simp only [resW]
  refine ACall.mono c ?_
  rintro r h1 n1 _ hfr ⟨v, rfl, hs, hn, hr⟩
  refine ⟨h1, Heap.sub_refl _, ?_⟩
  have hs' := KeepK.of hK hs
  simp only [frameV_put]
  exact ⟨fun x hx => hinv x (List.mem_filter.1 hx).1 h1 hs', (k v h1 n1 hr hs hn hfr).run _ fun x hx h2 hs2 => hinv x (List.mem_filter.1 hx).1 h2 (hs'.trans hs2)⟩
theorem dt.t {v : Value} (ho : l[i]? = some o) (hk : kindOf P o = 0) (hw : wantedA l.toArray o (frameV vs) = true) (hc : CallsF P o (evalV vs) f xs) (c : Free h n → Tells P f xs h n v) (hf : Free h n) (hd : o.dst = some d) [z : SetL vs d v vs']
    (k : ∀ n2, n ≤ n2 → Free h n2 → DT P l.toArray Q K plan vs' h n2) : DT P l.toArray Q K (.s i plan) vs h n := by
  refine dt.k ho hk hw hc (Tells.makes (S := []) (c hf)) (fun b _ hm => by simp at hm) ?_
  rintro u h2 n2 ⟨rfl, rfl⟩ _ hn hf2
  rw [hd, show setV vs (some d) u = vs' from z.eq]
  exact k n2 hn hf2
theorem dt.w [z : SetL vs d v vs'] (k : DT P ops Q K plan vs' h n) : DT P ops Q K plan (setV vs (some d) v) h n := by
  rw [show setV vs (some d) v = vs' from z.eq]; exact k
end
/-- Two operations that act are ready: each may come first. -/
theorem dt.f {P : Program} {l : List Oper} {Q : APost} {K : List Nat} {i j : Nat} {p q : PlanT} {o o' : Oper} {vs : List Value} {h : Heap} {n : Nat} (ho : l[i]? = some o) (hk : kindOf P o = 0) (ho' : l[j]? = some o') (hk' : kindOf P o' = 0)
    (a : DT P l.toArray Q K (.s i p) vs h n) (b : DT P l.toArray Q K (.s j q) vs h n) : DT P l.toArray Q K (.f i j p q) vs h n := by
  refine ⟨fun inv hinv => ?_⟩
  have ha := a.run inv hinv
  have hb := b.run inv hinv
  simp only [drawT, at_arr ho, hk, if_true] at ha
  simp only [drawT, at_arr ho', hk', if_true] at hb
  simp only [drawT, at_arr ho, at_arr ho']
  exact ⟨ha, hb⟩
end Go.Abs
/- Calls that may throw: they make, or they panic with one value. -/
namespace Go.Abs
open Go
/-- It makes, or it panics with w; then T. -/
def Throws (P : Program) (f : FuncId) (args : List Value) (h : Heap) (n : Nat) (S : List Nat) (R : Value → Heap → Nat → Prop) (w : Value) (T : Prop) : Prop :=
  ACall P f args.toArray h n fun r h' n' => (∃ v, r = .ret v ∧ SubBut h h' S ∧ n ≤ n' ∧ R v h' n') ∨ (r = .pan w ∧ SubBut h h' S ∧ n ≤ n' ∧ T)
section
variable {P : Program} {f : FuncId} {args : List Value} {h : Heap} {n : Nat} {S : List Nat} {R R' : Value → Heap → Nat → Prop} {w : Value} {T T' : Prop}
theorem Throws.free (q : Free h n → Throws P f args h n S R w T) : Throws P f args h n S R w T := ACall.free q
theorem Throws.of_bodyV {fn : Func} {c : Code} {vs : List Value}
    (hf : P.funcs[f]? = some fn) (hb : fn.body = some c) (hvs : vs = args ++ List.replicate (fn.ntmps - args.length) undef)
    (q : AWp P c (bodyA P fn fun r h' n' => (∃ v, r = .ret v ∧ SubBut h h' S ∧ n ≤ n' ∧ R v h' n') ∨ (r = .pan w ∧ SubBut h h' S ∧ n ≤ n' ∧ T)) (frameV vs) h n) : Throws P f args h n S R w T :=
  ACall.of_bodyV hf hb hvs q
end
section
variable {P : Program} {Q : APost} {vs vs' : List Value} {h : Heap} {n : Nat} {ops : Array Oper} {o : Oper} {rest : List Oper} {S : List Nat} {R : Value → Heap → Nat → Prop} {v w : Value} {T : Prop} {f : FuncId} {xs : List Value}
/-- A call that may throw. -/
theorem sq.x (hw : wantedA ops o (frameV vs) = true) (hc : CallsF P o (evalV vs) f xs) (c : Throws P f xs h n S R w T)
    (kp : ∀ h2 n2, T → SubBut h h2 S → n ≤ n2 → Q (.pan w) (frameV vs) h2 n2)
    (k : ∀ v h2 n2, R v h2 n2 → SubBut h h2 S → n ≤ n2 → Free h2 n2 → SW P ops Q rest (setV vs o.dst v) h2 n2) : SW P ops Q (o :: rest) vs h n := by
  obtain ⟨hok, hc1, hc2⟩ := hc
  refine ⟨?_⟩
  simp only [seqW, opW, hw, if_true, frameV_eval]
  refine ⟨hok, ?_⟩
  rw [hc1, hc2]
  refine ACall.mono c ?_
  rintro r h1 n1 _ hfr (⟨v, rfl, hs, hn, hr⟩ | ⟨rfl, hs, hn, ht⟩)
  · exact ⟨h1, Heap.sub_refl _, by simp only [frameV_put]; exact (k v h1 n1 hr hs hn hfr).run⟩
  · exact ⟨h1, Heap.sub_refl _, kp h1 n1 ht hs hn⟩
/-- A panic. -/
theorem sq.p {t : TypeId} {u : Value} {x : Operand} {dst : Option Tmp} {ty : TypeId} {pos : String} {after : Array Edge} {guard : Option (Nat × Bool)}
    (hw : wantedA ops ⟨dst, .panic x, ty, pos, after, guard⟩ (frameV vs) = true) (hok : okOper P.globals.size ⟨dst, .panic x, ty, pos, after, guard⟩ = true) (hx : evalV vs x = .iface t u) (q : Q (.pan (.iface t u)) (frameV vs) h n) :
    SW P ops Q (⟨dst, .panic x, ty, pos, after, guard⟩ :: rest) vs h n := by
  refine ⟨?_⟩
  simp only [seqW, opW, hw, if_true, frameV_eval]
  refine ⟨hok, ?_⟩
  have hc : calmE P ⟨dst, .panic x, ty, pos, after, guard⟩ (evalV vs) h = none := rfl
  have ha : actE P ⟨dst, .panic x, ty, pos, after, guard⟩ (evalV vs) h n = some (.pan (.iface t u), h, n) := by simp only [actE, hx]
  rw [hc, ha]
  exact q
end
/-- A result that lies in memory. -/
theorem res_cell {P : Program} {vs : List Value} {h : Heap} {a : Tmp} {t : TypeId} {v : Value} (hl : loadE P t (getV vs a) h = some v) : resultsE P (frameV vs) h [.cell a t] = some [v] := by
  have e : resultE P (frameV vs) h (.cell a t) = some v := by
    show loadE P t ((frameV vs).get a) h = some v
    rw [frameV_get]; exact hl
  show (match resultE P (frameV vs) h (.cell a t), resultsE P (frameV vs) h [] with | some x, some xs => some (x :: xs) | _, _ => none) = _
  rw [e]; rfl
/-- A place is the place that it is. -/
theorem ptr_neq_self {P : Program} {t e : TypeId} {k b o : Nat} (hu : P.underlying t = some (.pointer e)) (hi : (P.info? e).map (·.size) = some k) (hk : k ≠ 0) : binE P .neq t false false (.pointer (some ⟨b, o, none⟩)) (.pointer (some ⟨b, o, none⟩)) = some (.bool false) := by
  cases h40 : P.info? e with
  | none => rw [h40] at hi; cases hi
  | some i =>
    rw [h40] at hi
    simp only [Option.map_some, Option.some.injEq] at hi
    have e1 : eqNilE P t (.pointer (some ⟨b, o, none⟩)) (.pointer (some ⟨b, o, none⟩)) = some true := by
      simp only [eqNilE, hu, h40]
      rw [if_neg (by omega), if_pos trivial]
      simp
    simp only [binE, eqE, e1]
    rfl
/-! Operations that act and leave the heap: places of no type, entries of the model's own, a slice's place. -/
section
variable {P : Program} {h : Heap} {n : Nat} {o : Oper}
theorem Does.stay {ρ : Operand → Value} {v : Value} (hf : Free h n) (hc : calmE P o ρ h = none) (hv : actE P o ρ h n = some (.val v, h, n)) : Does P o ρ h n [] fun u h2 _ => u = v ∧ h2 = h :=
  ⟨hc, _, v, _, _, hv, .inl rfl, .refl _ _, Nat.le_refl n, hf, rfl, rfl⟩
theorem convPtr_to {s d t : TypeId} {k b p : Nat} {cs : List Value} {own : Bool} {ci : CI} (hs : P.underlying s = some (.pointer t)) (hd : P.underlying d = some .unsafePointer) (hi : (P.info? t).map (·.size) = some k) (hk : k ≠ 0)
    (hb : h.get b = some (.cells cs own ci)) (hp : p < cs.length) : convPtrE P s d (.pointer (some ⟨b, p, none⟩)) h = some (.pointer (some ⟨b, p, none⟩)) := by
  cases h40 : P.info? t with
  | none => rw [h40] at hi; cases hi
  | some i =>
    rw [h40] at hi
    simp only [Option.map_some, Option.some.injEq] at hi
    simp only [convPtrE, hs, hd, hb, h40, hi]
    rw [if_pos ⟨hk, hp⟩]
theorem convPtr_from {s d t : TypeId} {b p : Nat} {cs : List Value} {own : Bool} {ci : CI} (hs : P.underlying s = some .unsafePointer) (hd : P.underlying d = some (.pointer t)) (hi : (P.info? t).isSome = true)
    (hb : h.get b = some (.cells cs own ci)) (hw : ci.whole = true) (hl : liesAt P P.depth ci.e (cs.length / P.cellsOf ci.e) p t 1 = true) : convPtrE P s d (.pointer (some ⟨b, p, none⟩)) h = some (.pointer (some ⟨b, p, none⟩)) := by
  obtain ⟨i, hi⟩ := Option.isSome_iff_exists.1 hi
  simp only [convPtrE, hs, hd, hb, hi]
  rw [if_pos ⟨hw, hl⟩]
theorem flat_ptr {b p : Nat} : flat (.pointer (some ⟨b, p, none⟩)) = false := by rfl
theorem Does.convPtr {ρ : Operand → Value} {dst : Option Tmp} {s d ty : TypeId} {x : Operand} {pos : String} {after : Array Edge} {guard : Option (Nat × Bool)} {b p : Nat} (hf : Free h n)
    (hs : P.underlying s ≠ some .string ∧ ∀ e, P.underlying s ≠ some (.slice e)) (hx : ρ x = .pointer (some ⟨b, p, none⟩)) (hv : convPtrE P s d (.pointer (some ⟨b, p, none⟩)) h = some (.pointer (some ⟨b, p, none⟩))) :
    Does P ⟨dst, .convert s d x, ty, pos, after, guard⟩ ρ h n [] fun u h2 _ => u = .pointer (some ⟨b, p, none⟩) ∧ h2 = h := by
  have e1 : convE P s d (.pointer (some ⟨b, p, none⟩)) = none := by
    unfold convE
    split
    · simp_all
    · simp_all
    · rw [flat_ptr]; rfl
  have e2 : strOfE P s d (.pointer (some ⟨b, p, none⟩)) h = none := by unfold strOfE; split <;> simp_all
  have e3 : bytesOfE P s d (.pointer (some ⟨b, p, none⟩)) h n = none := by unfold bytesOfE; split <;> simp_all
  refine Does.stay hf ?_ ?_
  · simp only [calmE, hx, e1, e2]
  · simp only [actE, hx, e3, hv]
theorem calleeE_none {f : FuncId} {fn : Func} {xs : List Value} (hf : P.funcs[f]? = some fn) (hb : fn.body = none) : calleeE P (.func (.func f) #[] #[]) xs = none := by
  simp [calleeE, hf, hb]
theorem Does.same {ρ : Operand → Value} {dst : Option Tmp} {f : FuncId} {fn : Func} {a : Operand} {ts : Array TypeId} {ty : TypeId} {pos : String} {after : Array Edge} {guard : Option (Nat × Bool)} {v : Value} (hf : Free h n)
    (hfn : P.funcs[f]? = some fn) (hb : fn.body = none) (hk : xfnOf fn = some .same) (hρ : ρ (.func f) = .func (.func f) #[] #[]) (hx : ρ a = v) :
    Does P ⟨dst, .call { callee := .value (.func f), args := #[a], argTypes := ts }, ty, pos, after, guard⟩ ρ h n [] fun u h2 _ => u = v ∧ h2 = h := by
  refine Does.stay hf rfl ?_
  show (match calleeE P (ρ (.func f)) [ρ a] with | some (k, zs) => some (ARes.ent k zs, h, n) | none => externE P (ρ (.func f)) [ρ a] h n) = _
  rw [hρ, calleeE_none hfn hb]
  simp only [externE, hfn, hk, hx]
  rfl
/-- A string's bytes in new memory. -/
theorem Does.bytesOf {ρ : Operand → Value} {dst : Option Tmp} {s d e ty : TypeId} {x : Operand} {pos : String} {after : Array Edge} {guard : Option (Nat × Bool)} {b : ByteArray} {h0 : Heap} (hf : Free h n) (hs : P.underlying s = some .string) (hd : P.underlying d = some (.slice e))
    (he : P.underlying e = some (.int .u8)) (hx : ρ x = .string b) (hc : convE P s d (.string b) = none) (hp : 0 < b.data.toList.length) (hl : b.data.toList.length ≤ U) (hz : h0.get n = none) :
    Does P ⟨dst, .convert s d x, ty, pos, after, guard⟩ ρ h n [] fun v h2 _ => v = .slice (some ⟨n, 0, none⟩) b.data.toList.length U ∧ OwnRow encByte e h0 h2 (.slice (some ⟨n, 0, none⟩) b.data.toList.length U) b.data.toList := by
  have e2 : strOfE P s d (.string b) h = none := by unfold strOfE; split <;> simp_all
  have e3 : bytesOfE P s d (.string b) h n = some (.val (.slice (some ⟨n, 0, none⟩) b.data.toList.length U), h.set n (.cells (b.data.toList.map fun c => .int .u8 c.toNat) true ⟨e, 1, false⟩), n + 1) := by
    simp only [bytesOfE, hs, hd, he]
  obtain ⟨g1, x1, v1, h1, n1, g2, g3, g4, g5, g6, g7⟩ := Does.new (P := P) (o := ⟨dst, .convert s d x, ty, pos, after, guard⟩) (ρ := ρ) (v := .slice (some ⟨n, 0, none⟩) b.data.toList.length U) (ob := .cells (b.data.toList.map fun c => .int .u8 c.toNat) true ⟨e, 1, false⟩) hf
    (by simp only [calmE, hx, hc, e2]) (by simp only [actE, hx, e3])
  refine ⟨g1, x1, v1, h1, n1, g2, g3, g4, g5, g6, g7.1, .inr ⟨n, U, ⟨e, 1, false⟩, rfl, ?_, hz, rfl, ⟨hp, ?_⟩, .inl ⟨rfl, rfl⟩⟩⟩
  · rw [byte_row]; exact g7.2
  · exact hl
theorem Does.sdata {ρ : Operand → Value} {dst : Option Tmp} {a : Operand} {ts : Array TypeId} {ty : TypeId} {pos : String} {after : Array Edge} {guard : Option (Nat × Bool)} {x v : Value} (hf : Free h n) (hx : ρ a = x) (hv : dataE [x] h n = some (.val v, h, n)) :
    Does P ⟨dst, .call { callee := .builtin .unsafeSliceData, args := #[a], argTypes := ts }, ty, pos, after, guard⟩ ρ h n [] fun u h2 _ => u = v ∧ h2 = h := by
  refine Does.stay hf ?_ ?_
  · simp only [calmE]; rfl
  · show dataE [ρ a] h n = _
    rw [hx]; exact hv
theorem Does.bstr0 {ρ : Operand → Value} {dst : Option Tmp} {a c : Operand} {pt et : TypeId} {ty : TypeId} {pos : String} {after : Array Edge} {guard : Option (Nat × Bool)} (hf : Free h n) (hx : ρ a = .pointer none) (hc : ρ c = .int .i64 0) :
    Does P ⟨dst, .call { callee := .builtin .unsafeString, args := #[a, c], argTypes := #[pt, et] }, ty, pos, after, guard⟩ ρ h n [] fun u h2 _ => u = .string ⟨#[]⟩ ∧ h2 = h := by
  refine Does.stay hf ?_ ?_
  · simp only [calmE]; rfl
  · show (if ([pt, et] : List TypeId).length = 2 then bytesStrE P [pt, et] [ρ a, ρ c] h n else none) = _
    rw [hx, hc]; rfl
theorem Does.bstr {ρ : Operand → Value} {dst : Option Tmp} {a c : Operand} {pt et e : TypeId} {ty : TypeId} {pos : String} {after : Array Edge} {guard : Option (Nat × Bool)} {b : Nat} {bs : List UInt8} {ci : CI} (hf : Free h n) (hx : ρ a = .pointer (some ⟨b, 0, none⟩)) (hc : ρ c = .int .i64 bs.length)
    (hp : P.underlying pt = some (.pointer e)) (hb : h.get b = some (.cells (encByte.row bs) true ci)) (he : ci.e = e) (h1 : P.cellsOf e = 1) (h0 : 0 < bs.length) (hl : bs.length ≤ 9223372036854775807) :
    Does P ⟨dst, .call { callee := .builtin .unsafeString, args := #[a, c], argTypes := #[pt, et] }, ty, pos, after, guard⟩ ρ h n [b] fun u _ _ => u = .string ⟨bs.toArray⟩ := by
  have hmap : (bs.map fun b => (b.toNat : Int)).map (fun n => UInt8.ofNat n.toNat) = bs := by
    rw [List.map_map]
    have : ((fun n : Int => UInt8.ofNat n.toNat) ∘ fun b : UInt8 => (b.toNat : Int)) = id := by
      funext x
      simp
    rw [this, List.map_id]
  have hlen : (encByte.row bs).length = bs.length := by rw [byte_row, List.length_map]
  have hrow : rowE h b 0 bs.length = some (encByte.row bs) := by
    rw [rowE_of hb (by omega), List.drop_zero, ← hlen, List.take_length]
  refine ⟨by simp only [calmE]; rfl, .val (.string ⟨bs.toArray⟩), _, h.set b (.cells (encByte.row bs) false ci), n, ?_, .inl rfl, .set _ _ _, Nat.le_refl _, hf.setAt hb, rfl⟩
  show (if ([pt, et] : List TypeId).length = 2 then bytesStrE P [pt, et] [ρ a, ρ c] h n else none) = _
  rw [if_pos (show ([pt, et] : List TypeId).length = 2 from rfl), hx, hc]
  simp only [bytesStrE, hp, hb]
  rw [if_pos ⟨he, h1, by omega, by omega⟩, Int.toNat_natCast, hrow]
  simp only [byte_row, bytesE_map, hmap]
end
end Go.Abs
/- Bodies with deferred calls, step by step. -/
namespace Go.Abs
open Go
theorem ACallD.free {P : Program} {f : FuncId} {args : Array Value} {m : MS} {h : Heap} {n : Nat} {Q : DPost} (q : Free h n → ACallD P f args m h n Q) : ACallD P f args m h n Q :=
  fun μ a w u ha hr hm => q (fun _ hb => hr.below hb) μ a w u ha hr hm
theorem ACallD.mono {P : Program} {f : FuncId} {args : Array Value} {m : MS} {h : Heap} {n : Nat} {Q Q' : DPost} (c : ACallD P f args m h n Q) (hq : ∀ r m' h' n', n ≤ n' → Q r m' h' n' → Q' r m' h' n') : ACallD P f args m h n Q' := by
  intro μ a w u ha hr hm
  refine (c μ a w u ha hr hm).mono ?_
  rintro e u' w' ⟨μ', h', n', r, m', x1, x2, x3, x4, x5, q⟩
  exact ⟨μ', h', n', r, m', x1, x2, x3, x4, x5, hq _ _ _ _ x4 q⟩
/-- A frame with deferred calls. -/
def frameD (vs : List Value) (ds : List Deferred) : AAct := { frameV vs with defers := ds }
theorem frameD_nil (vs : List Value) : frameD vs [] = frameV vs := rfl
theorem frameD_eval (vs : List Value) (ds : List Deferred) : (frameD vs ds).eval = evalV vs := by
  have e : (frameD vs ds).eval = (frameV vs).eval := by funext x; cases x <;> rfl
  rw [e, frameV_eval]
theorem frameD_put (vs : List Value) (ds : List Deferred) (d : Option Tmp) (v : Value) : (frameD vs ds).put d v = frameD (setV vs d v) ds := by
  have e := frameV_put vs d v
  cases d with
  | none => rfl
  | some d =>
    unfold frameD
    simp only [AAct.put] at e ⊢
    by_cases hd : d < (frameV vs).size
    · rw [if_pos hd] at e ⊢
      rw [← e]
    · rw [if_neg hd] at e ⊢
      rw [← e]
theorem wantedD {ops : Array Oper} {o : Oper} {vs : List Value} {ds : List Deferred} (hg : o.guard = none) : wantedA ops o (frameD vs ds) = true := wantedA_none hg
section
variable {P : Program} {Q : APost} {vs : List Value} {ds : List Deferred} {h : Heap} {n : Nat} {ops : Array Oper} {o : Oper} {rest : List Oper} {S : List Nat} {R : Value → Heap → Nat → Prop} {v w : Value} {T : Prop} {f : FuncId} {xs : List Value}
theorem sd.e (q : Q .normal (frameD vs ds) h n) : seqW P (acall P) ops Q [] (frameD vs ds) h n := q
theorem sd.c (vs' : List Value) {v : Value} (hg : o.guard = none) (hok : okOper P.globals.size o = true) (hv : calmE P o (evalV vs) h = some v) (hd : setV vs o.dst v = vs') (k : seqW P (acall P) ops Q rest (frameD vs' ds) h n) : seqW P (acall P) ops Q (o :: rest) (frameD vs ds) h n := by
  subst hd
  simp only [seqW, opW, wantedD hg, if_true, frameD_eval, frameD_put]
  exact ⟨hok, by rw [hv]; exact k⟩
theorem sd.op (hg : o.guard = none) (hok : okOper P.globals.size o = true) (d : Does P o (evalV vs) h n S R)
    (k : ∀ v h2 n2, R v h2 n2 → SubBut h h2 S → n ≤ n2 → Free h2 n2 → seqW P (acall P) ops Q rest (frameD (setV vs o.dst v) ds) h2 n2) : seqW P (acall P) ops Q (o :: rest) (frameD vs ds) h n := by
  obtain ⟨hc, x, v, h', n', hv, hx, hs, hn, hf, hr⟩ := d
  simp only [seqW, opW, wantedD hg, if_true, frameD_eval]
  refine ⟨hok, ?_⟩
  rw [hc, hv]
  have := k v h' n' hr hs hn hf
  rcases hx with rfl | ⟨rfl, rfl⟩
  · simp only [resW, frameD_put]; exact this
  · simp only [resW, frameD_put]; exact this
theorem sd.x (hg : o.guard = none) (hc : CallsF P o (evalV vs) f xs) (c : Throws P f xs h n S R w T)
    (kp : ∀ h2 n2, T → SubBut h h2 S → n ≤ n2 → Free h2 n2 → Q (.pan w) (frameD vs ds) h2 n2)
    (k : ∀ v h2 n2, R v h2 n2 → SubBut h h2 S → n ≤ n2 → Free h2 n2 → seqW P (acall P) ops Q rest (frameD (setV vs o.dst v) ds) h2 n2) : seqW P (acall P) ops Q (o :: rest) (frameD vs ds) h n := by
  obtain ⟨hok, hc1, hc2⟩ := hc
  simp only [seqW, opW, wantedD hg, if_true, frameD_eval]
  refine ⟨hok, ?_⟩
  rw [hc1, hc2]
  refine ACall.mono c ?_
  rintro r h1 n1 _ hfr (⟨v, rfl, hs, hn, hr⟩ | ⟨rfl, hs, hn, ht⟩)
  · exact ⟨h1, Heap.sub_refl _, by simp only [frameD_put]; exact k v h1 n1 hr hs hn hfr⟩
  · exact ⟨h1, Heap.sub_refl _, kp h1 n1 ht hs hn hfr⟩
/-- A call is deferred. -/
theorem sd.d {c : Call} {fo : Operand} {ty : TypeId} {pos : String} {after : Array Edge} {dst : Option Tmp} {d : Deferred} (hok : okOper P.globals.size ⟨dst, .defer c, ty, pos, after, none⟩ = true) (hcal : c.callee = .value fo) (hd : deferE (evalV vs fo) (c.args.toList.map (evalV vs)) = some d)
    (k : seqW P (acall P) ops Q rest (frameD (setV vs dst undef) (d :: ds)) h n) : seqW P (acall P) ops Q (⟨dst, .defer c, ty, pos, after, none⟩ :: rest) (frameD vs ds) h n := by
  simp only [seqW, opW, wantedD (o := ⟨dst, .defer c, ty, pos, after, none⟩) rfl, if_true, frameD_eval]
  refine ⟨hok, ?_⟩
  have hc : calmE P ⟨dst, .defer c, ty, pos, after, none⟩ (evalV vs) h = none := rfl
  have ha : actE P ⟨dst, .defer c, ty, pos, after, none⟩ (evalV vs) h n = some (.dfr d, h, n) := by
    simp only [actE, hcal, hd]
  rw [hc, ha]
  simp only [resW]
  have e : (({ frameD vs ds with defers := d :: (frameD vs ds).defers } : AAct).put dst undef) = frameD (setV vs dst undef) (d :: ds) := frameD_put vs (d :: ds) dst undef
  rw [e]
  exact k
end
end Go.Abs
namespace Go.Abs
open Go
/-- What a text's bytes decode to: rune and width, one by one. -/
def decsF : Nat → List UInt8 → List (Nat × Nat)
  | 0, _ => []
  | f + 1, l => if l = [] then [] else Lib.decodeL l :: decsF f (l.drop (Lib.decodeL l).2)
def decs (l : List UInt8) : List (Nat × Nat) := decsF l.length l
theorem decsF_fuel : ∀ (n m : Nat) (l : List UInt8), l.length ≤ n → l.length ≤ m → decsF n l = decsF m l
  | 0, m, l, hn, _ => by
    have : l = [] := List.eq_nil_of_length_eq_zero (by omega)
    subst this
    cases m <;> simp [decsF]
  | n + 1, 0, l, _, hm => by
    have : l = [] := List.eq_nil_of_length_eq_zero (by omega)
    subst this
    simp [decsF]
  | n + 1, m + 1, l, hn, hm => by
    unfold decsF
    by_cases hne : l = []
    · simp [hne]
    · have hw := Lib.decodeL_width l
      have hl : 0 < l.length := List.length_pos_iff.2 hne
      rw [if_neg hne, if_neg hne, decsF_fuel n m _ (by rw [List.length_drop]; omega) (by rw [List.length_drop]; omega)]
theorem decs_nil : decs [] = [] := rfl
theorem decs_step (l : List UInt8) (hne : l ≠ []) : decs l = Lib.decodeL l :: decs (l.drop (Lib.decodeL l).2) := by
  have hl : 0 < l.length := List.length_pos_iff.2 hne
  have hw := Lib.decodeL_width l
  obtain ⟨n, hn⟩ : ∃ n, l.length = n + 1 := ⟨l.length - 1, by omega⟩
  unfold decs
  rw [hn]
  show (if l = [] then [] else _) = _
  rw [if_neg hne, decsF_fuel n _ _ (by rw [List.length_drop]; omega) (Nat.le_refl _)]
theorem validD_decs : ∀ (n : Nat) (l : List UInt8), l.length ≤ n → Lib.validD l = (decs l).all fun d => d != (65533, 1)
  | 0, l, hn => by
    have : l = [] := List.eq_nil_of_length_eq_zero (by omega)
    subst this
    rfl
  | n + 1, l, hn => by
    by_cases hne : l = []
    · subst hne; rfl
    · have hl : 0 < l.length := List.length_pos_iff.2 hne
      have hw := Lib.decodeL_width l
      rw [Lib.validD_step l hne, decs_step l hne, List.all_cons, ← validD_decs n _ (by rw [List.length_drop]; omega)]
      generalize Lib.decodeL l = d
      obtain ⟨a, b⟩ := d
      by_cases h : a = 65533 ∧ b = 1
      · rw [if_pos h]; obtain ⟨rfl, rfl⟩ := h; rfl
      · rw [if_neg h]
        have : ((a, b) != (65533, 1)) = true := by
          simp only [bne_iff_ne, ne_eq, Prod.mk.injEq]; exact h
        rw [this]; rfl
/-- How far a step goes. -/
theorem decodeL_le (l : List UInt8) (hne : l ≠ []) : (Lib.decodeL l).2 ≤ l.length := by
  unfold Lib.decodeL
  have hl : 0 < l.length := List.length_pos_iff.2 hne
  rw [Lib.decode_N]
  simp only [Nat.sub_zero]
  generalize (l.getD 0 0).toNat = b0
  unfold Lib.decodeN
  repeat' split
  all_goals simp_all
  all_goals omega
theorem decode_step (s : ByteArray) (p : Nat) (hp : p < s.data.toList.length) :
    decs (s.data.toList.drop p) = Utf8.decode s p :: decs (s.data.toList.drop (p + (Utf8.decode s p).2)) ∧ p + (Utf8.decode s p).2 ≤ s.data.toList.length ∧ 1 ≤ (Utf8.decode s p).2 := by
  have hne : s.data.toList.drop p ≠ [] := by
    intro h
    have := congrArg List.length h
    rw [List.length_drop] at this
    simp only [List.length_nil] at this
    omega
  have h1 := decs_step _ hne
  have h2 := decodeL_le _ hne
  have h3 := Lib.decodeL_width (s.data.toList.drop p)
  rw [Lib.decodeL_drop, List.drop_drop] at h1
  rw [Lib.decodeL_drop, List.length_drop] at h2
  rw [Lib.decodeL_drop] at h3
  exact ⟨h1, by omega, by omega⟩
/-- A rune that may stand in a value. -/
def okD (d : Nat × Nat) : Bool := d != (65533, 1) && decide (32 ≤ d.1) && d.1 != 127
def mayValueL (l : List UInt8) : Bool := (decs l).all okD && decide (1 ≤ (decs l).length) && decide ((decs l).length ≤ 64)
def mayValueB (s : ByteArray) : Bool := mayValueL s.data.toList
/-- Between the two runs over a value: the runes that are looked at. -/
def okC (d : Nat × Nat) : Bool := decide (32 ≤ d.1) && d.1 != 127
theorem okD_eq (d : Nat × Nat) : okD d = (okC d && d != (65533, 1)) := by
  unfold okD okC
  cases decide (32 ≤ d.1) <;> cases (d.1 != 127) <;> cases (d != (65533, 1)) <;> rfl
theorem all_okD (l : List (Nat × Nat)) : l.all okD = (l.all okC && l.all fun d => d != (65533, 1)) := by
  induction l with
  | nil => rfl
  | cons d l ih => simp only [List.all_cons, ih, okD_eq]; cases okC d <;> cases (d != (65533, 1)) <;> cases l.all okC <;> rfl
theorem mv_long {l : List UInt8} {ds r : List (Nat × Nat)} {d : Nat × Nat} (h : decs l = ds ++ d :: r) (hl : 64 ≤ ds.length) : mayValueL l = false := by
  unfold mayValueL
  rw [show decide ((decs l).length ≤ 64) = false by rw [h]; simp; omega, Bool.and_false]
theorem mv_bad {l : List UInt8} {ds r : List (Nat × Nat)} {d : Nat × Nat} (h : decs l = ds ++ d :: r) (hd : okC d = false) : mayValueL l = false := by
  unfold mayValueL
  rw [all_okD, h, List.all_append, List.all_cons, hd]
  simp
theorem mv_end {l : List UInt8} {ds : List (Nat × Nat)} (h : decs l = ds) (ho : ds.all okC = true) (hl : ds.length ≤ 64) : mayValueL l = (decide (0 < ds.length) && Lib.validD l) := by
  unfold mayValueL
  rw [all_okD, h, ho, validD_decs _ _ (Nat.le_refl _), h, Bool.true_and, decide_eq_true hl, Bool.and_true, Bool.and_comm]
  rfl
end Go.Abs
namespace Go.Proofs.YtkpjfibpaojelaaGreatDoor
open Go Go.Abs
set_option maxRecDepth 100000
def plans : Nat → Nat → Option (List Nat)
  | 7, 14 => some (List.range 15)
  | 8, 28 => some (List.range 41)
  | 12, 5 => some (List.range 19)
  | 15, 7 => some (List.range 11)
  | 16, 9 => some (List.range 12)
  | 24, 4 => some (List.range 25)
  | 25, 6 => some (List.range 34)
  | 27, 6 => some (List.range 24)
  | 28, 5 => some [0, 1, 2, 4, 5, 3, 6, 7]
  | 34, 5 => some [0, 1, 2, 3, 4, 5, 8, 9, 10, 11, 12, 6, 7, 13, 14, 15]
  | 35, 7 => some (List.range 6)
  | 46, 7 => some [0, 1, 2, 3, 4, 6, 7, 5, 8, 9, 10, 11, 12]
  | 46, 9 => some [0, 1, 2, 3, 4, 6, 7, 10, 11, 13, 14, 5, 8, 9, 12, 15, 16, 17, 18, 19, 20]
  | 46, 17 => some (List.range 17)
  | 46, 21 => some (List.range 27)
  | 46, 25 => some (List.range 37)
  | 47, 6 => some (List.range 9)
  | 55, 3 => some (List.range 11)
  | 59, 5 => some (List.range 13)
  | 64, 1 => some [0, 1, 2, 3, 5, 6, 7, 8, 9, 4, 10, 11]
  | 65, 3 => some (List.range 13)
  | 72, 1 => some (List.range 19)
  | 72, 2 => some (List.range 39)
  | 75, 3 => some (List.range 16)
  | 76, 10 => some (List.range 16)
  | 78, 3 => some (List.range 16)
  | 80, 6 => some (List.range 12)
  | 80, 9 => some (List.range 16)
  | 84, 0 => some [0, 1, 2, 3, 4, 5, 6, 7, 9, 10, 11, 12, 13, 8, 14, 15]
  | 96, 7 => some (List.range 15)
  | 96, 8 => some (List.range 15)
  | 96, 9 => some (List.range 15)
  | 96, 10 => some (List.range 15)
  | 96, 17 => some (List.range 15)
  | 96, 18 => some (List.range 15)
  | 96, 23 => some (List.range 15)
  | 100, 3 => some (List.range 12)
  | 118, 4 => some [0, 1, 2, 4, 5, 3, 6, 7]
  | 136, 1 => some [0, 1, 3, 2, 4, 5, 6]
  | 137, 1 => some [0, 1, 3, 2, 4, 5, 6]
  | 140, 6 => some (List.range 7)
  | 140, 7 => some (List.range 9)
  | 140, 14 => some (List.range 11)
  | 140, 31 => some (List.range 11)
  | _, _ => none
def deB32 : List Nat := [0, 1, 28, 2, 29, 14, 24, 3, 30, 22, 20, 15, 25, 17, 4, 8, 31, 27, 13, 23, 21, 19, 16, 7, 26, 12, 18, 6, 11, 5, 10, 9]
def deB64 : List Nat := [0, 1, 56, 2, 57, 49, 28, 3, 61, 58, 42, 50, 38, 29, 17, 4, 62, 47, 59, 36, 45, 43, 51, 22, 53, 39, 33, 30, 24, 18, 12, 5, 63, 55, 48, 27, 60, 41, 37, 16, 46, 35, 44, 21, 52, 32, 23, 11, 54, 26, 40, 15, 34, 20, 31, 10, 25, 14, 19, 9, 13, 8, 7, 6]
def pow10 : List Nat := [1, 10, 100, 1000, 10000, 100000, 1000000, 10000000, 100000000, 1000000000, 10000000000, 100000000000, 1000000000000, 10000000000000, 100000000000000, 1000000000000000, 10000000000000000, 100000000000000000, 1000000000000000000, 10000000000000000000]
def accs : List (List Nat) := [[128, 191], [160, 191], [128, 159], [144, 191], [128, 143], [0, 0], [0, 0], [0, 0], [0, 0], [0, 0], [0, 0], [0, 0], [0, 0], [0, 0], [0, 0], [0, 0]]
def laidL : Laid := [(0, .u8, Go.Pinned.utf8FirstZ), (1, .u8, accs.flatten), (2, .u64, pow10), (4, .u8, deB32), (5, .u8, deB64)]
theorem prog_facts : progB Tryz.prog plans = true := by kernel_rfl
theorem pok : POk Tryz.prog := (progB_ok prog_facts).1
theorem plans_ok : PlansOk Tryz.prog plans := (progB_ok prog_facts).2
theorem laidL_lt : (laidL.all fun x => decide (x.1 < Tryz.prog.globals.size)) = true := by kernel_rfl
theorem laidW_of {W : World} (h : laidMet Tryz.prog Rows.labelsNamesRow.laid W) : LaidW W laidL := by
  have h0 : Lib.VarReads Tryz.prog W "unicode/utf8.first" Rows.laid_unicode_utf8_first := Lib.laidMet.reads h (by unfold Rows.labelsNamesRow; simp)
  have h1 : Lib.VarReads Tryz.prog W "unicode/utf8.acceptRanges" Rows.laid_unicode_utf8_acceptRanges := Lib.laidMet.reads h (by unfold Rows.labelsNamesRow; simp)
  have h2 : Lib.VarReads Tryz.prog W "internal/strconv.uint64pow10" Rows.laid_internal_strconv_uint64pow10 := Lib.laidMet.reads h (by unfold Rows.labelsNamesRow; simp)
  have h4 : Lib.VarReads Tryz.prog W "math/bits.deBruijn32tab" Rows.laid_math_bits_deBruijn32tab := Lib.laidMet.reads h (by unfold Rows.labelsNamesRow; simp)
  have h5 : Lib.VarReads Tryz.prog W "math/bits.deBruijn64tab" Rows.laid_math_bits_deBruijn64tab := Lib.laidMet.reads h (by unfold Rows.labelsNamesRow; simp)
  intro x hx
  simp only [laidL, List.mem_cons, List.not_mem_nil, or_false] at hx
  rcases hx with rfl | rfl | rfl | rfl | rfl
  · exact laid_tab (t := 87) (e := 5) (m := 256) (by kernel_rfl) (by kernel_rfl) (by kernel_rfl) (by kernel_rfl) (by kernel_rfl) (by kernel_rfl) h0
  · refine laid_structs (t := 90) (e := 89) (m := 16) (fs := #[{ name := "lo", type := 5, offset := 0, embedded := false, tag := "", pkgPath := "unicode/utf8", byteOffset := 0 }, { name := "hi", type := 5, offset := 1, embedded := false, tag := "", pkgPath := "unicode/utf8", byteOffset := 1 }])
      (by kernel_rfl) (by kernel_rfl) (by kernel_rfl) (by kernel_rfl) ?_ (by kernel_rfl) (by kernel_rfl) (by kernel_rfl) (by decide) h1
    intro i f hi
    match i, hi with
    | 0, hi => simp at hi; subst hi; exact ⟨by kernel_rfl, rfl, by kernel_rfl⟩
    | 1, hi => simp at hi; subst hi; exact ⟨by kernel_rfl, rfl, by kernel_rfl⟩
    | i + 2, hi => simp at hi
  · exact laid_tab (t := 122) (e := 93) (m := 20) (by kernel_rfl) (by kernel_rfl) (by kernel_rfl) (by kernel_rfl) (by kernel_rfl) (by kernel_rfl) h2
  · exact laid_tab (t := 133) (e := 5) (m := 32) (by kernel_rfl) (by kernel_rfl) (by kernel_rfl) (by kernel_rfl) (by kernel_rfl) (by kernel_rfl) h4
  · exact laid_tab (t := 134) (e := 5) (m := 64) (by kernel_rfl) (by kernel_rfl) (by kernel_rfl) (by kernel_rfl) (by kernel_rfl) (by kernel_rfl) h5
end Go.Proofs.YtkpjfibpaojelaaGreatDoor
namespace Go.Proofs.YtkpjfibpaojelaaGreatDoor
open Go Go.Abs
set_option maxRecDepth 100000
set_option maxHeartbeats 2000000
def Laid0 (h : Heap) : Prop := ∃ c, (laidHeap c laidL).sub h
theorem Laid0.keep {h h' : Heap} (l : Laid0 h) (s : SubBut h h' []) : Laid0 h' := let ⟨c, q⟩ := l; ⟨c, Heap.sub_trans q s.sub⟩
theorem Laid0.sub {h h' : Heap} (l : Laid0 h) (s : h.sub h') : Laid0 h' := let ⟨c, q⟩ := l; ⟨c, Heap.sub_trans q s⟩
abbrev Lab := ByteArray × ByteArray
def encLab : Enc Lab := ⟨2, fun x => [.string x.1, .string x.2], fun _ => rfl, by decide⟩
theorem appLab : AppT Tryz.prog encLab 22 40 32 := ⟨by kernel_rfl, by kernel_rfl, by kernel_rfl, fun _ => rfl⟩
def letterB (c : Int) (first : Bool) : Bool := decide (97 ≤ c ∧ c ≤ 122 ∨ 65 ≤ c ∧ c ≤ 90 ∨ c = 95) || (decide (48 ≤ c ∧ c ≤ 57) && !first)
def mayNameB (s : ByteArray) : Bool := decide (1 ≤ s.data.toList.length ∧ s.data.toList.length ≤ 64) && (List.range s.data.toList.length).all fun i => letterB (bt s (i : Nat)) (decide (i = 0))
theorem letter_yes {c : Int} {b : Bool} (h : 97 ≤ c ∧ c ≤ 122 ∨ 65 ≤ c ∧ c ≤ 90 ∨ c = 95) : letterB c b = true := by unfold letterB; rw [decide_eq_true h]; rfl
theorem letter_digit {c : Int} {b : Bool} (h : 48 ≤ c ∧ c ≤ 57) : letterB c b = !b := by
  unfold letterB; rw [decide_eq_true h, decide_eq_false (show ¬ (97 ≤ c ∧ c ≤ 122 ∨ 65 ≤ c ∧ c ≤ 90 ∨ c = 95) by omega)]; rfl
theorem letter_no {c : Int} {b : Bool} (h : ¬ (97 ≤ c ∧ c ≤ 122 ∨ 65 ≤ c ∧ c ≤ 90 ∨ c = 95)) (h2 : ¬ (48 ≤ c ∧ c ≤ 57)) : letterB c b = false := by
  unfold letterB; rw [decide_eq_false h, decide_eq_false h2]; rfl
theorem all_range {n : Nat} {p : Nat → Bool} (h : ∀ i, i < n → p i = true) : (List.range n).all p = true := by
  rw [List.all_eq_true]
  intro i hi
  exact h i (List.mem_range.1 hi)
theorem all_range_false {n i : Nat} {p : Nat → Bool} (hi : i < n) (h : p i = false) : (List.range n).all p = false := by
  rw [List.all_eq_false]
  exact ⟨i, List.mem_range.2 hi, by simp [h]⟩
theorem bt0_pos {s : ByteArray} (h : ¬ s = ⟨#[]⟩) : 0 < s.data.toList.length := by
  rcases Nat.eq_zero_or_pos s.data.toList.length with e | e
  · exfalso; apply h; apply ByteArray.ext; apply Array.ext'
    exact List.eq_nil_of_length_eq_zero e
  · exact e
def okAt (ls : List Lab) (i : Nat) : Bool :=
  mayNameB (ls.getD i (⟨#[]⟩, ⟨#[]⟩)).1 && mayValueB (ls.getD i (⟨#[]⟩, ⟨#[]⟩)).2 &&
    (decide (i = 0) || !(lessS (ls.getD i (⟨#[]⟩, ⟨#[]⟩)).1 (ls.getD (i - 1) (⟨#[]⟩, ⟨#[]⟩)).1 || eqS (ls.getD i (⟨#[]⟩, ⟨#[]⟩)).1 (ls.getD (i - 1) (⟨#[]⟩, ⟨#[]⟩)).1))
def mayB (ls : List Lab) : Bool := decide (1 ≤ ls.length ∧ ls.length ≤ 16) && (List.range ls.length).all (okAt ls)
theorem getD_of {α : Type} {ls : List α} {i : Nat} {x d : α} (h : ls[i]? = some x) : ls.getD i d = x := by rw [List.getD_eq_getElem?_getD, h]; rfl
theorem okAt_of {ls : List Lab} {i : Nat} {x y : Lab} (hx : ls[i]? = some x) (hy : i ≠ 0 → ls[i - 1]? = some y) : okAt ls i = (mayNameB x.1 && mayValueB x.2 && (decide (i = 0) || !(lessS x.1 y.1 || eqS x.1 y.1))) := by
  unfold okAt
  rw [getD_of hx]
  by_cases h : i = 0
  · rw [decide_eq_true h, Bool.true_or, Bool.true_or]
  · rw [getD_of (hy h)]
theorem may_bad {ls : List Lab} {i : Nat} {x : Lab} (hx : ls[i]? = some x) (hb : mayNameB x.1 = false ∨ mayValueB x.2 = false) : mayB ls = false := by
  have hlt := (List.getElem?_eq_some_iff.1 hx).1
  unfold mayB
  rw [all_range_false hlt, Bool.and_false]
  unfold okAt
  rw [getD_of hx]
  rcases hb with h | h <;> rw [h] <;> simp
theorem may_row {ls : List Lab} {i : Nat} {x y : Lab} (hx : ls[i]? = some x) (h0 : i ≠ 0) (hy : ls[i - 1]? = some y) (hb : (lessS x.1 y.1 || eqS x.1 y.1) = true) : mayB ls = false := by
  have hlt := (List.getElem?_eq_some_iff.1 hx).1
  unfold mayB
  rw [all_range_false hlt, Bool.and_false]
  rw [okAt_of hx (fun _ => hy), hb, decide_eq_false h0]
  simp
theorem may_all {ls : List Lab} (h : ∀ i, i < ls.length → okAt ls i = true) : mayB ls = decide (1 ≤ ls.length ∧ ls.length ≤ 16) := by
  unfold mayB
  rw [all_range h, Bool.and_true]
theorem may_len {ls : List Lab} (h : ¬ (1 ≤ ls.length ∧ ls.length ≤ 16)) : mayB ls = false := by
  unfold mayB
  rw [decide_eq_false h]
  rfl
theorem okAt_yes {ls : List Lab} {i : Nat} {x : Lab} (hx : ls[i]? = some x) (h1 : mayNameB x.1 = true) (h2 : mayValueB x.2 = true) (h3 : i = 0 ∨ ∃ y, ls[i - 1]? = some y ∧ (lessS x.1 y.1 || eqS x.1 y.1) = false) : okAt ls i = true := by
  rcases h3 with h | ⟨y, hy, h⟩
  · rw [okAt_of (y := x) hx (fun q => (q h).elim), h1, h2, decide_eq_true h]; rfl
  · rw [okAt_of hx (fun _ => hy), h1, h2, h]; simp
def runeD (s : ByteArray) : Nat × Nat := if s.data.toList = [] ∨ Lib.decodeL s.data.toList = (65533, 1) then (0, 0) else Lib.decodeL s.data.toList
def runeC (s : ByteArray) (c : Int) : Nat → Int
  | 0 => c
  | i + 1 => runeC s c i * 64 + bt s ((i : Int) + 1) - 128
end Go.Proofs.YtkpjfibpaojelaaGreatDoor
namespace Go.Proofs
open Go.Shelf
def Tryz.laysValid_ren : Go.Shelf.Ren := ⟨fun | 196 => 46 | 259 => 72 | n => n, fun | 9 => 9 | 4 => 4 | 3 => 3 | 5 => 5 | 12 => 12 | 119 => 87 | 0 => 0 | 46 => 91 | 139 => 90 | 138 => 89 | 53 => 93 | n => n, fun | 3 => 0 | 4 => 1 | n => n⟩
theorem Tryz.laysValid : Go.Proofs.Lays.n196 Tryz.prog Tryz.laysValid_ren := {
  mixed := by kernel_rfl
  f196 := Tryz.func46.trans (congrArg some (by kernel_rfl))
  f259 := Tryz.func72.trans (congrArg some (by kernel_rfl))
  t0 := Tryz.underlying0
  a0 := Tryz.isAgg0
  z0 := Tryz.sizeOf0
  v0 := Tryz.zeroValue0
  t3 := Tryz.underlying3
  a3 := Tryz.isAgg3
  z3 := Tryz.sizeOf3
  v3 := Tryz.zeroValue3
  t4 := Tryz.underlying4
  a4 := Tryz.isAgg4
  z4 := Tryz.sizeOf4
  v4 := Tryz.zeroValue4
  t5 := Tryz.underlying5
  a5 := Tryz.isAgg5
  z5 := Tryz.sizeOf5
  v5 := Tryz.zeroValue5
  t9 := Tryz.underlying9
  a9 := Tryz.isAgg9
  z9 := Tryz.sizeOf9
  v9 := Tryz.zeroValue9
  t12 := Tryz.underlying12
  a12 := Tryz.isAgg12
  z12 := Tryz.sizeOf12
  v12 := Tryz.zeroValue12
  t46 := Tryz.underlying91
  a46 := Tryz.isAgg91
  z46 := Tryz.sizeOf91
  v46 := Tryz.zeroValue91
  t53 := Tryz.underlying93
  a53 := Tryz.isAgg93
  z53 := Tryz.sizeOf93
  v53 := Tryz.zeroValue93
  t119 := Tryz.underlying87
  a119 := Tryz.isAgg87
  z119 := Tryz.sizeOf87
  t138 := Tryz.underlying89
  a138 := Tryz.isAgg89
  z138 := Tryz.sizeOf89
  v138 := Tryz.zeroValue89
  t139 := Tryz.underlying90
  a139 := Tryz.isAgg90
  z139 := Tryz.sizeOf90
  v139 := Tryz.zeroValue90
  g3 := by kernel_rfl
  g4 := by kernel_rfl }
def Tryz.laysDecode_ren : Go.Shelf.Ren := ⟨fun | 197 => 101 | 260 => 110 | n => n, fun | 9 => 9 | 21 => 21 | 3 => 3 | 4 => 4 | 5 => 5 | 105 => 116 | 119 => 87 | 0 => 0 | 46 => 91 | 139 => 90 | 138 => 89 | n => n, fun | 3 => 0 | 4 => 1 | n => n⟩
theorem Tryz.laysDecode : Go.Proofs.Lays.n197 Tryz.prog Tryz.laysDecode_ren := {
  mixed := by kernel_rfl
  f197 := Tryz.func101.trans (congrArg some (by kernel_rfl))
  f260 := Tryz.func110.trans (congrArg some (by kernel_rfl))
  t0 := Tryz.underlying0
  a0 := Tryz.isAgg0
  z0 := Tryz.sizeOf0
  v0 := Tryz.zeroValue0
  t3 := Tryz.underlying3
  a3 := Tryz.isAgg3
  z3 := Tryz.sizeOf3
  v3 := Tryz.zeroValue3
  t4 := Tryz.underlying4
  a4 := Tryz.isAgg4
  z4 := Tryz.sizeOf4
  v4 := Tryz.zeroValue4
  t5 := Tryz.underlying5
  a5 := Tryz.isAgg5
  z5 := Tryz.sizeOf5
  v5 := Tryz.zeroValue5
  t9 := Tryz.underlying9
  a9 := Tryz.isAgg9
  z9 := Tryz.sizeOf9
  v9 := Tryz.zeroValue9
  t21 := Tryz.underlying21
  a21 := Tryz.isAgg21
  z21 := Tryz.sizeOf21
  v21 := Tryz.zeroValue21
  t46 := Tryz.underlying91
  a46 := Tryz.isAgg91
  z46 := Tryz.sizeOf91
  v46 := Tryz.zeroValue91
  t105 := Tryz.underlying116
  a105 := Tryz.isAgg116
  z105 := Tryz.sizeOf116
  v105 := Tryz.zeroValue116
  t119 := Tryz.underlying87
  a119 := Tryz.isAgg87
  z119 := Tryz.sizeOf87
  t138 := Tryz.underlying89
  a138 := Tryz.isAgg89
  z138 := Tryz.sizeOf89
  v138 := Tryz.zeroValue89
  t139 := Tryz.underlying90
  a139 := Tryz.isAgg90
  z139 := Tryz.sizeOf90
  v139 := Tryz.zeroValue90
  g3 := by kernel_rfl
  g4 := by kernel_rfl }
end Go.Proofs
namespace Go.Proofs.YtkpjfibpaojelaaGreatDoor
open Go Go.Abs Go.RowKit
set_option maxRecDepth 100000
set_option maxHeartbeats 2000000
theorem laid_get {h : Heap} (hl : Laid0 h) {b : Nat} {k : IntKind} {zs : List Nat} (c : ∀ c, (laidHeap c laidL).get b = some (.cells (rowOf k zs) false (c b))) : ∃ ci, h.get b = some (.cells (rowOf k zs) false ci) := by
  obtain ⟨d, hs⟩ := hl
  exact ⟨_, hs _ _ (c d)⟩
theorem laid_cell {μ : Mu} {h : Heap} {n : Nat} {w : World} (hr : Rel Tryz.prog μ h n w) {b : Nat} (hb : b < Tryz.prog.globals.size) {k : IntKind} {zs : List Nat} {ci : CI} (hg : h.get b = some (.cells (rowOf k zs) false ci)) {i z : Nat} (hz : zs[i]? = some z) :
    w.cell? ⟨b, i, none⟩ = some (.int k z) := by
  obtain ⟨m, x, h1, h2, h3⟩ := hr.obj b _ hg
  obtain ⟨m', e1, e2, e3⟩ := hr.glob b hb
  rw [h1] at e1
  cases e1
  cases x with
  | cells c el fr =>
    obtain ⟨g1, g2, g3, _⟩ := h3
    have hv : (rowOf k zs)[i]? = some (.int k z) := by simp [rowOf, hz]
    obtain ⟨v', q1, q2⟩ := g3 i _ hv
    rw [e3, Nat.zero_add] at q1
    have := q2.flat_eq rfl
    subst this
    rw [e2] at h2
    rw [cell_of_block h2]
    exact q1
  | _ => exact h3.elim
theorem first_get : ∀ c, c < 256 → Go.Pinned.utf8FirstZ[c]? = some (Lib.firstT c) := by
  intro c hc
  have h : ∀ c : Fin 256, Go.Pinned.utf8FirstZ[c.val]? = some (Lib.firstT c.val) := by decide
  exact h ⟨c, hc⟩
theorem acc_get : ∀ i, i < 16 → accs.flatten[2 * i]? = some (Lib.accLo i) ∧ accs.flatten[2 * i + 1]? = some (Lib.accHi i) := by
  intro i hi
  have h : ∀ i : Fin 16, accs.flatten[2 * i.val]? = some (Lib.accLo i.val) ∧ accs.flatten[2 * i.val + 1]? = some (Lib.accHi i.val) := by decide
  exact h ⟨i, hi⟩
theorem tabs_of {μ : Mu} {h : Heap} {n : Nat} {w : World} (hl : Laid0 h) (hr : Rel Tryz.prog μ h n w) : Lib.Utf8Tabs 0 1 w := by
  obtain ⟨c0, h0⟩ := laid_get hl (b := 0) (k := .u8) (zs := Go.Pinned.utf8FirstZ) (fun c => by kernel_rfl)
  obtain ⟨c1, h1⟩ := laid_get hl (b := 1) (k := .u8) (zs := accs.flatten) (fun c => by kernel_rfl)
  have hG : (1 : Nat) < Tryz.prog.globals.size := of_decide_eq_true (by kernel_rfl)
  refine ⟨fun c hc => laid_cell hr (by omega) h0 (first_get c hc), fun i hi => ⟨laid_cell hr hG h1 (acc_get i hi).1, laid_cell hr hG h1 (acc_get i hi).2⟩⟩
theorem f46_spec {h : Heap} {n : Nat} (s : ByteArray) (hl : Laid0 h) (hs : s.data.toList.length < 9223372036854775808) : Tells Tryz.prog 46 [.string s] h n (.bool (Lib.validD s.data.toList)) :=
  Tells.of_calls rfl rfl fun _ w hr => Any.utf8_ValidString Tryz.laysValid s w (by simp at hs; omega) (tabs_of hl hr)
theorem f101_spec {h : Heap} {n : Nat} (s : ByteArray) (hl : Laid0 h) : Tells Tryz.prog 101 [.string s] h n (.tuple #[.int .i32 (Lib.decodeGo s).1, .int .i64 (Lib.decodeGo s).2]) :=
  Tells.of_calls rfl rfl fun _ w hr => Any.utf8_DecodeRuneInString Tryz.laysDecode s w (tabs_of hl hr)
end Go.Proofs.YtkpjfibpaojelaaGreatDoor
namespace Go.Proofs.YtkpjfibpaojelaaGreatDoor
open Go Go.Abs
set_option maxRecDepth 100000
set_option maxHeartbeats 4000000
theorem dec1 {n b0 b1 b2 b3 : Nat} (h : b0 < 128) : Lib.decodeN n b0 b1 b2 b3 = (b0, 1) := by unfold Lib.decodeN; rw [if_pos h]
theorem dec0 {n b0 b1 b2 b3 : Nat} (h : 128 ≤ b0 ∧ b0 < 192 ∨ 248 ≤ b0) : Lib.decodeN n b0 b1 b2 b3 = (65533, 1) := by
  unfold Lib.decodeN
  rw [if_neg (by omega), if_neg (by omega), if_neg (by omega), if_neg (by omega)]
theorem dec2 {n b0 b1 b2 b3 : Nat} (h : 192 ≤ b0 ∧ b0 < 224) : Lib.decodeN n b0 b1 b2 b3 = if 2 ≤ n ∧ 128 ≤ b1 ∧ b1 < 192 ∧ 128 ≤ (b0 - 192) * 64 + (b1 - 128) then ((b0 - 192) * 64 + (b1 - 128), 2) else (65533, 1) := by
  unfold Lib.decodeN
  rw [if_neg (by omega)]
  by_cases c : 2 ≤ n ∧ 128 ≤ b1 ∧ b1 < 192
  · rw [if_pos (by omega)]
    have e : b0 % 32 * 64 + b1 % 64 = (b0 - 192) * 64 + (b1 - 128) := by omega
    rw [e]
    by_cases c2 : 128 ≤ (b0 - 192) * 64 + (b1 - 128)
    · rw [if_pos c2, if_pos (by omega)]
    · rw [if_neg c2, if_neg (by omega)]
  · rw [if_neg (by omega), if_neg (by omega), if_neg (by omega), if_neg (by omega)]
theorem dec3 {n b0 b1 b2 b3 : Nat} (h : 224 ≤ b0 ∧ b0 < 240) (h1 : b1 < 256) (h2 : b2 < 256) : Lib.decodeN n b0 b1 b2 b3 = if 3 ≤ n ∧ (128 ≤ b1 ∧ b1 < 192) ∧ (128 ≤ b2 ∧ b2 < 192) ∧ 2048 ≤ ((b0 - 224) * 64 + (b1 - 128)) * 64 + (b2 - 128) ∧ ¬ (55296 ≤ ((b0 - 224) * 64 + (b1 - 128)) * 64 + (b2 - 128) ∧ ((b0 - 224) * 64 + (b1 - 128)) * 64 + (b2 - 128) ≤ 57343)
    then (((b0 - 224) * 64 + (b1 - 128)) * 64 + (b2 - 128), 3) else (65533, 1) := by
  unfold Lib.decodeN
  rw [if_neg (by omega), if_neg (by omega)]
  by_cases c : 3 ≤ n ∧ (128 ≤ b1 ∧ b1 < 192) ∧ (128 ≤ b2 ∧ b2 < 192)
  · rw [if_pos (by omega)]
    have e : b0 % 16 * 4096 + b1 % 64 * 64 + b2 % 64 = ((b0 - 224) * 64 + (b1 - 128)) * 64 + (b2 - 128) := by omega
    rw [e]
    generalize hg : ((b0 - 224) * 64 + (b1 - 128)) * 64 + (b2 - 128) = g
    have hlt : g < 65536 := by omega
    by_cases c2 : 2048 ≤ g ∧ ¬ (55296 ≤ g ∧ g ≤ 57343)
    · rw [if_pos (by omega), if_pos (by omega)]
    · rw [if_neg (by omega), if_neg (by omega)]
  · rw [if_neg (by omega), if_neg (by omega), if_neg (by omega)]
theorem dec4 {n b0 b1 b2 b3 : Nat} (h : 240 ≤ b0 ∧ b0 < 248) (h1 : b1 < 256) (h2 : b2 < 256) (h3 : b3 < 256) : Lib.decodeN n b0 b1 b2 b3 = if 4 ≤ n ∧ (128 ≤ b1 ∧ b1 < 192) ∧ (128 ≤ b2 ∧ b2 < 192) ∧ (128 ≤ b3 ∧ b3 < 192) ∧ 65536 ≤ (((b0 - 240) * 64 + (b1 - 128)) * 64 + (b2 - 128)) * 64 + (b3 - 128) ∧ (((b0 - 240) * 64 + (b1 - 128)) * 64 + (b2 - 128)) * 64 + (b3 - 128) ≤ 1114111
    then ((((b0 - 240) * 64 + (b1 - 128)) * 64 + (b2 - 128)) * 64 + (b3 - 128), 4) else (65533, 1) := by
  unfold Lib.decodeN
  rw [if_neg (by omega), if_neg (by omega), if_neg (by omega)]
  by_cases c : 4 ≤ n ∧ (128 ≤ b1 ∧ b1 < 192) ∧ (128 ≤ b2 ∧ b2 < 192) ∧ (128 ≤ b3 ∧ b3 < 192)
  · rw [if_pos (by omega)]
    have e : b0 % 8 * 262144 + b1 % 64 * 4096 + b2 % 64 * 64 + b3 % 64 = (((b0 - 240) * 64 + (b1 - 128)) * 64 + (b2 - 128)) * 64 + (b3 - 128) := by omega
    rw [e]
    generalize hg : (((b0 - 240) * 64 + (b1 - 128)) * 64 + (b2 - 128)) * 64 + (b3 - 128) = g
    by_cases c2 : 65536 ≤ g ∧ g ≤ 1114111
    · rw [if_pos (by omega), if_pos (by omega)]
    · rw [if_neg (by omega), if_neg (by omega)]
  · rw [if_neg (by omega), if_neg (by omega)]
/-- The bytes of a text, as numbers. -/
def bN (s : ByteArray) (i : Nat) : Nat := (s.data.toList.getD i 0).toNat
theorem bN_bt (s : ByteArray) (i : Nat) : (bN s i : Int) = bt s (i : Nat) := by
  unfold bN bt
  rw [List.getD_eq_getElem?_getD]
  rfl
theorem bN_lt (s : ByteArray) (i : Nat) : bN s i < 256 := UInt8.toNat_lt _
def zz (d : Nat × Nat) : Nat × Nat := if d = (65533, 1) then (0, 0) else d
theorem zz_bad : zz (65533, 1) = (0, 0) := rfl
theorem zz_ok {a b : Nat} (h : b ≠ 1) : zz (a, b) = (a, b) := by
  unfold zz
  rw [if_neg]
  intro e
  exact h (congrArg Prod.snd e)
theorem runeD_N {s : ByteArray} (h : 0 < s.data.toList.length) : runeD s = zz (Lib.decodeN s.data.toList.length (bN s 0) (bN s 1) (bN s 2) (bN s 3)) := by
  have e : Lib.decodeL s.data.toList = Lib.decodeN s.data.toList.length (bN s 0) (bN s 1) (bN s 2) (bN s 3) := by
    have := Lib.decodeL_drop s 0
    rw [List.drop_zero] at this
    rw [this, Lib.decode_N]
    rfl
  have hne : s.data.toList ≠ [] := List.ne_nil_of_length_pos h
  unfold runeD
  rw [e]
  simp only [hne, false_or]
  rfl
/-- The document's way from the lead byte on: how many follow, the least number, what the lead byte bears. -/
def lead (b : Int) : Int × Int × Int := if b < 224 then (1, 128, b - 192) else if b < 240 then (2, 2048, b - 224) else (3, 65536, b - 240)
theorem rune_short {s : ByteArray} (h : 0 < s.data.toList.length) (h1 : 192 ≤ bt s 0) (h2 : bt s 0 < 248) (hn : (s.data.toList.length : Int) < 1 + (lead (bt s 0)).1) : runeD s = (0, 0) := by
  have e0 := bN_bt s 0
  have q1 := bN_lt s 1; have q2 := bN_lt s 2; have q3 := bN_lt s 3
  simp only [Int.natCast_zero] at e0
  rw [runeD_N h]
  unfold lead at hn
  split at hn
  · rw [dec2 (by omega), if_neg (by simp only at hn; omega), zz_bad]
  · split at hn
    · rw [dec3 (by omega) q1 q2, if_neg (by simp only at hn; omega), zz_bad]
    · rw [dec4 (by omega) q1 q2 q3, if_neg (by simp only at hn; omega), zz_bad]
theorem rune_cont {s : ByteArray} (h : 0 < s.data.toList.length) (h1 : 192 ≤ bt s 0) (h2 : bt s 0 < 248) {k : Nat} (hk : (k : Int) + 1 ≤ (lead (bt s 0)).1) (hb : bt s ((k : Int) + 1) < 128 ∨ 192 ≤ bt s ((k : Int) + 1)) : runeD s = (0, 0) := by
  have e0 := bN_bt s 0
  have e1 := bN_bt s 1; have e2 := bN_bt s 2; have e3 := bN_bt s 3
  have q1 := bN_lt s 1; have q2 := bN_lt s 2; have q3 := bN_lt s 3
  simp only [Int.natCast_zero] at e0
  rw [runeD_N h]
  unfold lead at hk
  have key : ∀ j : Nat, k + 1 = j → bt s ((k : Int) + 1) = bt s (j : Nat) := fun j e => by rw [← e]; rfl
  split at hk
  · have : k = 0 := by simp only at hk; omega
    have := key 1 (by omega)
    rw [dec2 (by omega), if_neg (by omega), zz_bad]
  · split at hk
    · have hk2 : k = 0 ∨ k = 1 := by simp only at hk; omega
      rw [dec3 (by omega) q1 q2, if_neg, zz_bad]
      rcases hk2 with e | e
      · have := key 1 (by omega); omega
      · have := key 2 (by omega); omega
    · have hk2 : k = 0 ∨ k = 1 ∨ k = 2 := by simp only at hk; omega
      rw [dec4 (by omega) q1 q2 q3, if_neg, zz_bad]
      rcases hk2 with e | e | e
      · have := key 1 (by omega); omega
      · have := key 2 (by omega); omega
      · have := key 3 (by omega); omega
theorem rune_end {s : ByteArray} (h : 0 < s.data.toList.length) (h1 : 192 ≤ bt s 0) (h2 : bt s 0 < 248) (hn : 1 + (lead (bt s 0)).1 ≤ (s.data.toList.length : Int)) {k : Nat} (hk : (k : Int) = (lead (bt s 0)).1) (hb : ∀ j : Nat, 1 ≤ j → j ≤ k → 128 ≤ bt s (j : Nat) ∧ bt s (j : Nat) < 192) :
    runeD s = if runeC s (lead (bt s 0)).2.2 k < (lead (bt s 0)).2.1 ∨ 1114111 < runeC s (lead (bt s 0)).2.2 k ∨ 55296 ≤ runeC s (lead (bt s 0)).2.2 k ∧ runeC s (lead (bt s 0)).2.2 k ≤ 57343 then (0, 0) else ((runeC s (lead (bt s 0)).2.2 k).toNat, k + 1) := by
  have e0 := bN_bt s 0
  have e1 := bN_bt s 1; have e2 := bN_bt s 2; have e3 := bN_bt s 3
  have q1 := bN_lt s 1; have q2 := bN_lt s 2; have q3 := bN_lt s 3
  simp only [Int.natCast_zero] at e0
  rw [runeD_N h]
  unfold lead at *
  split at hk
  · rename_i c
    rw [if_pos c] at hn ⊢
    simp only at hn hk ⊢
    have hk1 : k = 1 := by omega
    subst hk1
    have b1 := hb 1 (by omega) (by omega)
    have hv : runeC s (bt s 0 - 192) 1 = (bt s 0 - 192) * 64 + bt s (1 : Nat) - 128 := rfl
    generalize runeC s (bt s 0 - 192) 1 = r at *
    rw [dec2 (by omega)]
    split
    · rename_i c2
      rw [zz_ok (by decide), if_neg (by omega)]
      congr 1
      omega
    · rename_i c2
      rw [zz_bad, if_pos (by omega)]
  · split at hk
    · rename_i c c'
      rw [if_neg c, if_pos c'] at hn ⊢
      simp only at hn hk ⊢
      have hk1 : k = 2 := by omega
      subst hk1
      have b1 := hb 1 (by omega) (by omega)
      have b2 := hb 2 (by omega) (by omega)
      have hv : runeC s (bt s 0 - 224) 2 = ((bt s 0 - 224) * 64 + bt s (1 : Nat) - 128) * 64 + bt s (2 : Nat) - 128 := rfl
      generalize runeC s (bt s 0 - 224) 2 = r at *
      rw [dec3 (by omega) q1 q2]
      split
      · rename_i c2
        rw [zz_ok (by decide), if_neg (by omega)]
        congr 1
        omega
      · rename_i c2
        rw [zz_bad, if_pos (by omega)]
    · rename_i c c'
      rw [if_neg c, if_neg c'] at hn ⊢
      simp only at hn hk ⊢
      have hk1 : k = 3 := by omega
      subst hk1
      have b1 := hb 1 (by omega) (by omega)
      have b2 := hb 2 (by omega) (by omega)
      have b3 := hb 3 (by omega) (by omega)
      have hv : runeC s (bt s 0 - 240) 3 = (((bt s 0 - 240) * 64 + bt s (1 : Nat) - 128) * 64 + bt s (2 : Nat) - 128) * 64 + bt s (3 : Nat) - 128 := rfl
      generalize runeC s (bt s 0 - 240) 3 = r at *
      rw [dec4 (by omega) q1 q2 q3]
      split
      · rename_i c2
        rw [zz_ok (by decide), if_neg (by omega)]
        congr 1
        omega
      · rename_i c2
        rw [zz_bad, if_pos (by omega)]
theorem rune_ascii {s : ByteArray} (h : 0 < s.data.toList.length) (h1 : bt s 0 < 128) : runeD s = ((bt s 0).toNat, 1) := by
  have e0 := bN_bt s 0
  simp only [Int.natCast_zero] at e0
  rw [runeD_N h, dec1 (by omega)]
  unfold zz
  rw [if_neg]
  · exact Prod.ext (by simp only; omega) rfl
  · intro e
    have := congrArg Prod.fst e
    simp only at this
    omega
theorem rune_bad {s : ByteArray} (h : 0 < s.data.toList.length) (h1 : 128 ≤ bt s 0 ∧ bt s 0 < 192 ∨ 248 ≤ bt s 0) : runeD s = (0, 0) := by
  have e0 := bN_bt s 0
  simp only [Int.natCast_zero] at e0
  rw [runeD_N h, dec0 (by omega)]
  rfl
theorem lead_bd {b n l c : Int} (h : lead b = (n, l, c)) (h1 : 192 ≤ b) (h2 : b < 248) : 0 ≤ c ∧ c < 32 ∧ 1 ≤ n ∧ n ≤ 3 ∧ 0 ≤ l := by
  unfold lead at h
  split at h
  · simp only [Prod.mk.injEq] at h; omega
  · split at h
    · simp only [Prod.mk.injEq] at h; omega
    · simp only [Prod.mk.injEq] at h; omega
theorem rune_tuple {s : ByteArray} {a b : Nat} (h : runeD s = (a, b)) {x y : Int} (hx : x = (a : Int)) (hy : y = (b : Int)) : Value.tuple #[.int .i64 x, .int .i64 y] = .tuple #[.int .i64 ((runeD s).1 : Nat), .int .i64 ((runeD s).2 : Nat)] := by
  rw [h, hx, hy]
theorem zz_of {d : Nat × Nat} (h : ¬ ((zz d).2 : Int) = 0) : zz d = d ∧ d ≠ (65533, 1) := by
  unfold zz at *
  split at h
  · simp at h
  · rename_i c; rw [if_neg c]; exact ⟨rfl, c⟩
theorem rune_at {s : ByteArray} {a : Int} (h0 : 0 ≤ a) (h1 : a < (s.data.toList.length : Nat)) : runeD (sub s a (s.data.toList.length : Nat)) = zz (Utf8.decode s a.toNat) := by
  have e : (sub s a (s.data.toList.length : Nat)).data.toList = s.data.toList.drop a.toNat := by
    simp only [sub, sliceS, Int.toNat_natCast]
    rw [List.take_of_length_le (by rw [List.length_drop]; omega)]
  have hp : 0 < (s.data.toList.drop a.toNat).length := by rw [List.length_drop]; omega
  unfold runeD zz
  rw [e, Lib.decodeL_drop]
  simp only [List.ne_nil_of_length_pos hp, false_or]
theorem mv_badD {l : List UInt8} {ds r : List (Nat × Nat)} {d : Nat × Nat} (h : decs l = ds ++ d :: r) (hd : okD d = false) : mayValueL l = false := by
  unfold mayValueL
  rw [h, List.all_append, List.all_cons, hd]
  simp
theorem mv_endD {l : List UInt8} {ds : List (Nat × Nat)} (h : decs l = ds) (ho : ds.all okD = true) : mayValueL l = (decide (1 ≤ ds.length) && decide (ds.length ≤ 64)) := by
  unfold mayValueL
  rw [h, ho, Bool.true_and]
theorem f40_spec {h : Heap} {n : Nat} (s : ByteArray) (hlen : s.data.toList.length < 9223372036854775808) :
    Tells Tryz.prog 40 [.string (s)] h n (.tuple #[.int .i64 ((runeD s).1 : Nat), .int .i64 ((runeD s).2 : Nat)]) := by
  refine Makes.tells (Makes.free fun hf => ?_)
  have hs : SubBut h h [] := .refl _ _
  have hn : n ≤ n := Nat.le_refl _
  have hf0 := hf
  refine Makes.of_bodyV (args := [.string (s)]) (vs := [.string (s), undef, undef, undef, undef, undef, undef, undef, undef, undef, undef, undef, undef, undef, undef, undef, undef, undef, undef, undef, undef, undef, undef, undef, undef, undef, undef, undef, undef, undef, undef, undef, undef, undef, undef, undef, undef, undef, undef, undef, undef, undef, undef, undef, undef, undef, undef, undef, undef, undef, undef, undef, undef, undef, undef, undef, undef, undef, undef, undef, undef, undef, undef, undef, undef, undef, undef, undef, undef, undef, undef, undef, undef, undef, undef, undef, undef, undef, undef, undef, undef, undef, undef, undef]) Tryz.func40 rfl rfl ?_
  refine AWp.seq (AWp.rowV (l := _) pok ?_)
  refine sq.c (v := .int .i64 (0)) rfl rfl rfl rfl ?_
  refine sq.c (v := .int .i64 (0)) rfl rfl rfl rfl ?_
  refine sq.e (AWp.seq (AWp.seq (AWp.rowV (l := _) pok ?_)))
  refine sq.c (v := .string (s)) rfl rfl rfl rfl ?_
  refine sq.c (v := .bool (decide (s = (⟨#[]⟩ : ByteArray)))) rfl rfl (eqD _ _) rfl ?_
  refine sq.e ?_
  by_cases c1_1 : s = (⟨#[]⟩ : ByteArray)
  · rw [decide_eq_true c1_1]
    refine AWp.condT rfl rfl ?_
    refine AWp.seq (AWp.rowV (l := _) pok ?_)
    refine sq.c (v := .int .i64 (0)) rfl rfl rfl rfl ?_
    refine sq.c (v := .int .i64 (0)) rfl rfl rfl rfl ?_
    refine sq.e ?_
    refine AWp.ret ?_
    refine ⟨rfl, [.int .i64 (0), .int .i64 (0)], rfl, .tuple #[.int .i64 (0), .int .i64 (0)], rfl, hs, hn, ?_⟩
    subst c1_1; rfl
  · rw [decide_eq_false c1_1]
    refine AWp.condF rfl rfl ?_
    refine AWp.skip (AWp.seq (AWp.rowV (l := _) pok ?_))
    refine sq.c (v := .string (s)) rfl rfl rfl rfl ?_
    refine sq.c (v := .int .u8 (bt (s) (0))) rfl rfl (index_str (P := Tryz.prog) (t := 9) (s := s) (i := 0) (k := .i64) (by kernel_rfl) (by omega) (by have := bt0_pos c1_1; omega)) rfl ?_
    refine sq.c (v := .int .i64 (bt (s) (0))) rfl rfl (Eq.trans (b := some (.int .i64 (IntKind.i64.wrap (bt (s) (0))))) (by kernel_rfl) (okI (wrap_i64 (by have := bt_lt s 0; omega) (by have := bt_lt s 0; omega)))) rfl ?_
    refine sq.c (v := .int .i64 (bt (s) (0))) rfl rfl rfl rfl ?_
    refine sq.e (AWp.seq (AWp.seq (AWp.rowV (l := _) pok ?_)))
    refine sq.c (v := .int .i64 (bt (s) (0))) rfl rfl rfl rfl ?_
    refine sq.c (v := .bool (decide ((bt (s) (0)) < (128 : Int)))) rfl rfl rfl rfl ?_
    refine sq.e ?_
    by_cases c4_1 : (bt (s) (0)) < (128 : Int)
    · rw [decide_eq_true c4_1]
      refine AWp.condT rfl rfl ?_
      refine AWp.seq (AWp.rowV (l := _) pok ?_)
      refine sq.c (v := .int .i64 (bt (s) (0))) rfl rfl rfl rfl ?_
      refine sq.c (v := .int .i64 (bt (s) (0))) rfl rfl rfl rfl ?_
      refine sq.c (v := .int .i64 (1)) rfl rfl rfl rfl ?_
      refine sq.e ?_
      refine AWp.ret ?_
      refine ⟨rfl, [.int .i64 (bt (s) (0)), .int .i64 (1)], rfl, .tuple #[.int .i64 (bt (s) (0)), .int .i64 (1)], rfl, hs, hn, ?_⟩
      have hp := bt0_pos c1_1
      have hb := bt_lt s 0
      exact rune_tuple (rune_ascii hp c4_1) (by omega) rfl
    · rw [decide_eq_false c4_1]
      refine AWp.condF rfl rfl ?_
      refine AWp.skip (AWp.seq (AWp.rowV (l := _) pok ?_))
      refine sq.c (v := .int .i64 (0)) rfl rfl rfl rfl ?_
      refine sq.c (v := .int .i64 (0)) rfl rfl rfl rfl ?_
      refine sq.e ?_
      refine AWp.seqJ (fun vs h' n2 => ∃ (nn least c0 : Int), h = h' ∧ n ≤ n2 ∧ Free h n2 ∧ (lead (bt s 0) = (nn, least, c0)) ∧ (0 < s.data.toList.length) ∧ (192 ≤ bt s 0) ∧ (bt s 0 < 248) ∧ ∃ y1 : Nat → Value, vs = [.string (s), undef, (y1 2), (y1 3), .int .i64 (c0), .int .i64 (nn), .int .i64 (least), undef, undef, .string (s), .bool false, .string (s), .int .u8 (bt (s) (0)), .int .i64 (bt (s) (0)), .int .i64 (bt (s) (0)), .bool false, undef, (y1 17), (y1 18), (y1 19), (y1 20), (y1 21), (y1 22), (y1 23), (y1 24), (y1 25), (y1 26), (y1 27), (y1 28), (y1 29), (y1 30), (y1 31), (y1 32), (y1 33), (y1 34), (y1 35), (y1 36), (y1 37), (y1 38), (y1 39), (y1 40), undef, undef, undef, undef, undef, undef, undef, undef, undef, undef, undef, undef, undef, undef, undef, undef, undef, undef, undef, undef, undef, undef, undef, undef, undef, undef, undef, undef, undef, undef, undef, undef, undef, undef, undef, undef, undef, undef, undef, undef, undef, undef, undef]) ?_ ?_
      · skip
        refine AWp.seq (AWp.rowV (l := _) pok ?_)
        refine sq.c (v := .int .i64 (bt (s) (0))) rfl rfl rfl rfl ?_
        refine sq.c (v := .bool (decide ((192 : Int) ≤ (bt (s) (0))))) rfl rfl rfl rfl ?_
        refine sq.c (v := .bool (decide ((192 : Int) ≤ (bt (s) (0))))) rfl rfl rfl rfl ?_
        by_cases c7_1 : (192 : Int) ≤ (bt (s) (0))
        · rw [decide_eq_true c7_1]
          refine sq.c (v := .int .i64 (bt (s) (0))) (wantT (g := 2) (d := 19) rfl rfl rfl) rfl rfl rfl ?_
          refine sq.c (v := .bool (decide ((bt (s) (0)) < (224 : Int)))) (wantT (g := 2) (d := 19) rfl rfl rfl) rfl rfl rfl ?_
          refine sq.c (v := .bool (decide ((bt (s) (0)) < (224 : Int)))) rfl rfl rfl rfl ?_
          refine sq.e ?_
          by_cases c7_4 : (bt (s) (0)) < (224 : Int)
          · rw [decide_eq_true c7_4]
            refine AWp.condT rfl rfl ?_
            refine AWp.rowV (l := _) pok ?_
            refine sq.c (v := .int .i64 (bt (s) (0))) rfl rfl rfl rfl ?_
            refine sq.c (v := .int .i64 ((bt (s) (0)) - 192)) rfl rfl (okI (wrap_i64 (by have := bt_lt s 0; omega) (by have := bt_lt s 0; omega))) rfl ?_
            refine sq.c (v := .int .i64 (1)) rfl rfl rfl rfl ?_
            refine sq.c (v := .int .i64 ((bt (s) (0)) - 192)) rfl rfl rfl rfl ?_
            refine sq.c (v := .int .i64 (128)) rfl rfl rfl rfl ?_
            refine sq.e ?_
            have hp := bt0_pos c1_1
            have hL : lead (bt s 0) = (1, 128, (bt (s) (0)) - 192) := by unfold lead; rw [if_pos (by omega)]
            refine ⟨_, rfl, 1, 128, (bt (s) (0)) - 192, rfl, hn, hf, (hL), (hp), (by omega), (by omega), getV [undef, undef, .int .i64 (0), .int .i64 (0), undef, undef, undef, undef, undef, undef, undef, undef, undef, undef, undef, undef, undef, .int .i64 (bt (s) (0)), .bool true, .bool true, .int .i64 (bt (s) (0)), .bool true, .bool true, .int .i64 (bt (s) (0)), .int .i64 ((bt (s) (0)) - 192), undef, undef, undef, undef, undef, undef, undef, undef, undef, undef, undef, undef, undef, undef, undef, undef], rfl⟩
          · rw [decide_eq_false c7_4]
            refine AWp.condF rfl rfl ?_
            refine AWp.seq (AWp.rowV (l := _) pok ?_)
            refine sq.c (v := .int .i64 (bt (s) (0))) rfl rfl rfl rfl ?_
            refine sq.c (v := .bool (decide ((224 : Int) ≤ (bt (s) (0))))) rfl rfl rfl rfl ?_
            refine sq.c (v := .bool (decide ((224 : Int) ≤ (bt (s) (0))))) rfl rfl rfl rfl ?_
            by_cases c9_1 : (224 : Int) ≤ (bt (s) (0))
            · rw [decide_eq_true c9_1]
              refine sq.c (v := .int .i64 (bt (s) (0))) (wantT (g := 2) (d := 27) rfl rfl rfl) rfl rfl rfl ?_
              refine sq.c (v := .bool (decide ((bt (s) (0)) < (240 : Int)))) (wantT (g := 2) (d := 27) rfl rfl rfl) rfl rfl rfl ?_
              refine sq.c (v := .bool (decide ((bt (s) (0)) < (240 : Int)))) rfl rfl rfl rfl ?_
              refine sq.e ?_
              by_cases c9_4 : (bt (s) (0)) < (240 : Int)
              · rw [decide_eq_true c9_4]
                refine AWp.condT rfl rfl ?_
                refine AWp.rowV (l := _) pok ?_
                refine sq.c (v := .int .i64 (bt (s) (0))) rfl rfl rfl rfl ?_
                refine sq.c (v := .int .i64 ((bt (s) (0)) - 224)) rfl rfl (okI (wrap_i64 (by have := bt_lt s 0; omega) (by have := bt_lt s 0; omega))) rfl ?_
                refine sq.c (v := .int .i64 (2)) rfl rfl rfl rfl ?_
                refine sq.c (v := .int .i64 ((bt (s) (0)) - 224)) rfl rfl rfl rfl ?_
                refine sq.c (v := .int .i64 (2048)) rfl rfl rfl rfl ?_
                refine sq.e ?_
                have hp := bt0_pos c1_1
                have hL : lead (bt s 0) = (2, 2048, (bt (s) (0)) - 224) := by unfold lead; rw [if_neg (by omega), if_pos (by omega)]
                refine ⟨_, rfl, 2, 2048, (bt (s) (0)) - 224, rfl, hn, hf, (hL), (hp), (by omega), (by omega), getV [undef, undef, .int .i64 (0), .int .i64 (0), undef, undef, undef, undef, undef, undef, undef, undef, undef, undef, undef, undef, undef, .int .i64 (bt (s) (0)), .bool true, .bool true, .int .i64 (bt (s) (0)), .bool false, .bool false, undef, undef, .int .i64 (bt (s) (0)), .bool true, .bool true, .int .i64 (bt (s) (0)), .bool true, .bool true, .int .i64 (bt (s) (0)), .int .i64 ((bt (s) (0)) - 224), undef, undef, undef, undef, undef, undef, undef, undef], rfl⟩
              · rw [decide_eq_false c9_4]
                refine AWp.condF rfl rfl ?_
                refine AWp.seq (AWp.rowV (l := _) pok ?_)
                refine sq.c (v := .int .i64 (bt (s) (0))) rfl rfl rfl rfl ?_
                refine sq.c (v := .bool (decide ((240 : Int) ≤ (bt (s) (0))))) rfl rfl rfl rfl ?_
                refine sq.c (v := .bool (decide ((240 : Int) ≤ (bt (s) (0))))) rfl rfl rfl rfl ?_
                by_cases c11_1 : (240 : Int) ≤ (bt (s) (0))
                · rw [decide_eq_true c11_1]
                  refine sq.c (v := .int .i64 (bt (s) (0))) (wantT (g := 2) (d := 35) rfl rfl rfl) rfl rfl rfl ?_
                  refine sq.c (v := .bool (decide ((bt (s) (0)) < (248 : Int)))) (wantT (g := 2) (d := 35) rfl rfl rfl) rfl rfl rfl ?_
                  refine sq.c (v := .bool (decide ((bt (s) (0)) < (248 : Int)))) rfl rfl rfl rfl ?_
                  refine sq.e ?_
                  by_cases c11_4 : (bt (s) (0)) < (248 : Int)
                  · rw [decide_eq_true c11_4]
                    refine AWp.condT rfl rfl ?_
                    refine AWp.rowV (l := _) pok ?_
                    refine sq.c (v := .int .i64 (bt (s) (0))) rfl rfl rfl rfl ?_
                    refine sq.c (v := .int .i64 ((bt (s) (0)) - 240)) rfl rfl (okI (wrap_i64 (by have := bt_lt s 0; omega) (by have := bt_lt s 0; omega))) rfl ?_
                    refine sq.c (v := .int .i64 (3)) rfl rfl rfl rfl ?_
                    refine sq.c (v := .int .i64 ((bt (s) (0)) - 240)) rfl rfl rfl rfl ?_
                    refine sq.c (v := .int .i64 (65536)) rfl rfl rfl rfl ?_
                    refine sq.e ?_
                    have hp := bt0_pos c1_1
                    have hL : lead (bt s 0) = (3, 65536, (bt (s) (0)) - 240) := by unfold lead; rw [if_neg (by omega), if_neg (by omega)]
                    refine ⟨_, rfl, 3, 65536, (bt (s) (0)) - 240, rfl, hn, hf, (hL), (hp), (by omega), (by omega), getV [undef, undef, .int .i64 (0), .int .i64 (0), undef, undef, undef, undef, undef, undef, undef, undef, undef, undef, undef, undef, undef, .int .i64 (bt (s) (0)), .bool true, .bool true, .int .i64 (bt (s) (0)), .bool false, .bool false, undef, undef, .int .i64 (bt (s) (0)), .bool true, .bool true, .int .i64 (bt (s) (0)), .bool false, .bool false, undef, undef, .int .i64 (bt (s) (0)), .bool true, .bool true, .int .i64 (bt (s) (0)), .bool true, .bool true, .int .i64 (bt (s) (0)), .int .i64 ((bt (s) (0)) - 240)], rfl⟩
                  · rw [decide_eq_false c11_4]
                    refine AWp.condF rfl rfl ?_
                    refine AWp.seq (AWp.rowV (l := _) pok ?_)
                    refine sq.c (v := .int .i64 (0)) rfl rfl rfl rfl ?_
                    refine sq.c (v := .int .i64 (0)) rfl rfl rfl rfl ?_
                    refine sq.e ?_
                    refine AWp.ret ?_
                    refine ⟨rfl, [.int .i64 (0), .int .i64 (0)], rfl, .tuple #[.int .i64 (0), .int .i64 (0)], rfl, hs, hn, ?_⟩
                    have hp := bt0_pos c1_1
                    have hb := bt_lt s 0
                    exact rune_tuple (a := 0) (b := 0) (rune_bad hp (by omega)) rfl rfl
                · rw [decide_eq_false c11_1]
                  refine sq.s (wantF (g := 2) (d := 35) rfl rfl rfl) rfl ?_
                  refine sq.s (wantF (g := 2) (d := 35) rfl rfl rfl) rfl ?_
                  refine sq.c (v := .bool false) rfl rfl rfl rfl ?_
                  refine sq.e ?_
                  refine AWp.condF rfl rfl ?_
                  refine AWp.seq (AWp.rowV (l := _) pok ?_)
                  refine sq.c (v := .int .i64 (0)) rfl rfl rfl rfl ?_
                  refine sq.c (v := .int .i64 (0)) rfl rfl rfl rfl ?_
                  refine sq.e ?_
                  refine AWp.ret ?_
                  refine ⟨rfl, [.int .i64 (0), .int .i64 (0)], rfl, .tuple #[.int .i64 (0), .int .i64 (0)], rfl, hs, hn, ?_⟩
                  have hp := bt0_pos c1_1
                  have hb := bt_lt s 0
                  exact rune_tuple (a := 0) (b := 0) (rune_bad hp (by omega)) rfl rfl
            · rw [decide_eq_false c9_1]
              refine sq.s (wantF (g := 2) (d := 27) rfl rfl rfl) rfl ?_
              refine sq.s (wantF (g := 2) (d := 27) rfl rfl rfl) rfl ?_
              refine sq.c (v := .bool false) rfl rfl rfl rfl ?_
              refine sq.e ?_
              refine AWp.condF rfl rfl ?_
              refine AWp.seq (AWp.rowV (l := _) pok ?_)
              refine sq.c (v := .int .i64 (bt (s) (0))) rfl rfl rfl rfl ?_
              refine sq.c (v := .bool (decide ((240 : Int) ≤ (bt (s) (0))))) rfl rfl rfl rfl ?_
              refine sq.c (v := .bool (decide ((240 : Int) ≤ (bt (s) (0))))) rfl rfl rfl rfl ?_
              by_cases c11_1 : (240 : Int) ≤ (bt (s) (0))
              · rw [decide_eq_true c11_1]
                refine sq.c (v := .int .i64 (bt (s) (0))) (wantT (g := 2) (d := 35) rfl rfl rfl) rfl rfl rfl ?_
                refine sq.c (v := .bool (decide ((bt (s) (0)) < (248 : Int)))) (wantT (g := 2) (d := 35) rfl rfl rfl) rfl rfl rfl ?_
                refine sq.c (v := .bool (decide ((bt (s) (0)) < (248 : Int)))) rfl rfl rfl rfl ?_
                refine sq.e ?_
                by_cases c11_4 : (bt (s) (0)) < (248 : Int)
                · rw [decide_eq_true c11_4]
                  refine AWp.condT rfl rfl ?_
                  refine AWp.rowV (l := _) pok ?_
                  refine sq.c (v := .int .i64 (bt (s) (0))) rfl rfl rfl rfl ?_
                  refine sq.c (v := .int .i64 ((bt (s) (0)) - 240)) rfl rfl (okI (wrap_i64 (by have := bt_lt s 0; omega) (by have := bt_lt s 0; omega))) rfl ?_
                  refine sq.c (v := .int .i64 (3)) rfl rfl rfl rfl ?_
                  refine sq.c (v := .int .i64 ((bt (s) (0)) - 240)) rfl rfl rfl rfl ?_
                  refine sq.c (v := .int .i64 (65536)) rfl rfl rfl rfl ?_
                  refine sq.e ?_
                  have hp := bt0_pos c1_1
                  have hL : lead (bt s 0) = (3, 65536, (bt (s) (0)) - 240) := by unfold lead; rw [if_neg (by omega), if_neg (by omega)]
                  refine ⟨_, rfl, 3, 65536, (bt (s) (0)) - 240, rfl, hn, hf, (hL), (hp), (by omega), (by omega), getV [undef, undef, .int .i64 (0), .int .i64 (0), undef, undef, undef, undef, undef, undef, undef, undef, undef, undef, undef, undef, undef, .int .i64 (bt (s) (0)), .bool true, .bool true, .int .i64 (bt (s) (0)), .bool false, .bool false, undef, undef, .int .i64 (bt (s) (0)), .bool false, .bool false, undef, undef, .bool false, undef, undef, .int .i64 (bt (s) (0)), .bool true, .bool true, .int .i64 (bt (s) (0)), .bool true, .bool true, .int .i64 (bt (s) (0)), .int .i64 ((bt (s) (0)) - 240)], rfl⟩
                · rw [decide_eq_false c11_4]
                  refine AWp.condF rfl rfl ?_
                  refine AWp.seq (AWp.rowV (l := _) pok ?_)
                  refine sq.c (v := .int .i64 (0)) rfl rfl rfl rfl ?_
                  refine sq.c (v := .int .i64 (0)) rfl rfl rfl rfl ?_
                  refine sq.e ?_
                  refine AWp.ret ?_
                  refine ⟨rfl, [.int .i64 (0), .int .i64 (0)], rfl, .tuple #[.int .i64 (0), .int .i64 (0)], rfl, hs, hn, ?_⟩
                  have hp := bt0_pos c1_1
                  have hb := bt_lt s 0
                  exact rune_tuple (a := 0) (b := 0) (rune_bad hp (by omega)) rfl rfl
              · rw [decide_eq_false c11_1]
                refine sq.s (wantF (g := 2) (d := 35) rfl rfl rfl) rfl ?_
                refine sq.s (wantF (g := 2) (d := 35) rfl rfl rfl) rfl ?_
                refine sq.c (v := .bool false) rfl rfl rfl rfl ?_
                refine sq.e ?_
                refine AWp.condF rfl rfl ?_
                refine AWp.seq (AWp.rowV (l := _) pok ?_)
                refine sq.c (v := .int .i64 (0)) rfl rfl rfl rfl ?_
                refine sq.c (v := .int .i64 (0)) rfl rfl rfl rfl ?_
                refine sq.e ?_
                refine AWp.ret ?_
                refine ⟨rfl, [.int .i64 (0), .int .i64 (0)], rfl, .tuple #[.int .i64 (0), .int .i64 (0)], rfl, hs, hn, ?_⟩
                have hp := bt0_pos c1_1
                have hb := bt_lt s 0
                exact rune_tuple (a := 0) (b := 0) (rune_bad hp (by omega)) rfl rfl
        · rw [decide_eq_false c7_1]
          refine sq.s (wantF (g := 2) (d := 19) rfl rfl rfl) rfl ?_
          refine sq.s (wantF (g := 2) (d := 19) rfl rfl rfl) rfl ?_
          refine sq.c (v := .bool false) rfl rfl rfl rfl ?_
          refine sq.e ?_
          refine AWp.condF rfl rfl ?_
          refine AWp.seq (AWp.rowV (l := _) pok ?_)
          refine sq.c (v := .int .i64 (bt (s) (0))) rfl rfl rfl rfl ?_
          refine sq.c (v := .bool (decide ((224 : Int) ≤ (bt (s) (0))))) rfl rfl rfl rfl ?_
          refine sq.c (v := .bool (decide ((224 : Int) ≤ (bt (s) (0))))) rfl rfl rfl rfl ?_
          by_cases c9_1 : (224 : Int) ≤ (bt (s) (0))
          · rw [decide_eq_true c9_1]
            refine sq.c (v := .int .i64 (bt (s) (0))) (wantT (g := 2) (d := 27) rfl rfl rfl) rfl rfl rfl ?_
            refine sq.c (v := .bool (decide ((bt (s) (0)) < (240 : Int)))) (wantT (g := 2) (d := 27) rfl rfl rfl) rfl rfl rfl ?_
            refine sq.c (v := .bool (decide ((bt (s) (0)) < (240 : Int)))) rfl rfl rfl rfl ?_
            refine sq.e ?_
            by_cases c9_4 : (bt (s) (0)) < (240 : Int)
            · rw [decide_eq_true c9_4]
              refine AWp.condT rfl rfl ?_
              refine AWp.rowV (l := _) pok ?_
              refine sq.c (v := .int .i64 (bt (s) (0))) rfl rfl rfl rfl ?_
              refine sq.c (v := .int .i64 ((bt (s) (0)) - 224)) rfl rfl (okI (wrap_i64 (by have := bt_lt s 0; omega) (by have := bt_lt s 0; omega))) rfl ?_
              refine sq.c (v := .int .i64 (2)) rfl rfl rfl rfl ?_
              refine sq.c (v := .int .i64 ((bt (s) (0)) - 224)) rfl rfl rfl rfl ?_
              refine sq.c (v := .int .i64 (2048)) rfl rfl rfl rfl ?_
              refine sq.e ?_
              have hp := bt0_pos c1_1
              have hL : lead (bt s 0) = (2, 2048, (bt (s) (0)) - 224) := by unfold lead; rw [if_neg (by omega), if_pos (by omega)]
              refine ⟨_, rfl, 2, 2048, (bt (s) (0)) - 224, rfl, hn, hf, (hL), (hp), (by omega), (by omega), getV [undef, undef, .int .i64 (0), .int .i64 (0), undef, undef, undef, undef, undef, undef, undef, undef, undef, undef, undef, undef, undef, .int .i64 (bt (s) (0)), .bool false, .bool false, undef, undef, .bool false, undef, undef, .int .i64 (bt (s) (0)), .bool true, .bool true, .int .i64 (bt (s) (0)), .bool true, .bool true, .int .i64 (bt (s) (0)), .int .i64 ((bt (s) (0)) - 224), undef, undef, undef, undef, undef, undef, undef, undef], rfl⟩
            · rw [decide_eq_false c9_4]
              refine AWp.condF rfl rfl ?_
              refine AWp.seq (AWp.rowV (l := _) pok ?_)
              refine sq.c (v := .int .i64 (bt (s) (0))) rfl rfl rfl rfl ?_
              refine sq.c (v := .bool (decide ((240 : Int) ≤ (bt (s) (0))))) rfl rfl rfl rfl ?_
              refine sq.c (v := .bool (decide ((240 : Int) ≤ (bt (s) (0))))) rfl rfl rfl rfl ?_
              by_cases c11_1 : (240 : Int) ≤ (bt (s) (0))
              · rw [decide_eq_true c11_1]
                refine sq.c (v := .int .i64 (bt (s) (0))) (wantT (g := 2) (d := 35) rfl rfl rfl) rfl rfl rfl ?_
                refine sq.c (v := .bool (decide ((bt (s) (0)) < (248 : Int)))) (wantT (g := 2) (d := 35) rfl rfl rfl) rfl rfl rfl ?_
                refine sq.c (v := .bool (decide ((bt (s) (0)) < (248 : Int)))) rfl rfl rfl rfl ?_
                refine sq.e ?_
                by_cases c11_4 : (bt (s) (0)) < (248 : Int)
                · rw [decide_eq_true c11_4]
                  refine AWp.condT rfl rfl ?_
                  refine AWp.rowV (l := _) pok ?_
                  refine sq.c (v := .int .i64 (bt (s) (0))) rfl rfl rfl rfl ?_
                  refine sq.c (v := .int .i64 ((bt (s) (0)) - 240)) rfl rfl (okI (wrap_i64 (by have := bt_lt s 0; omega) (by have := bt_lt s 0; omega))) rfl ?_
                  refine sq.c (v := .int .i64 (3)) rfl rfl rfl rfl ?_
                  refine sq.c (v := .int .i64 ((bt (s) (0)) - 240)) rfl rfl rfl rfl ?_
                  refine sq.c (v := .int .i64 (65536)) rfl rfl rfl rfl ?_
                  refine sq.e ?_
                  have hp := bt0_pos c1_1
                  have hL : lead (bt s 0) = (3, 65536, (bt (s) (0)) - 240) := by unfold lead; rw [if_neg (by omega), if_neg (by omega)]
                  refine ⟨_, rfl, 3, 65536, (bt (s) (0)) - 240, rfl, hn, hf, (hL), (hp), (by omega), (by omega), getV [undef, undef, .int .i64 (0), .int .i64 (0), undef, undef, undef, undef, undef, undef, undef, undef, undef, undef, undef, undef, undef, .int .i64 (bt (s) (0)), .bool false, .bool false, undef, undef, .bool false, undef, undef, .int .i64 (bt (s) (0)), .bool true, .bool true, .int .i64 (bt (s) (0)), .bool false, .bool false, undef, undef, .int .i64 (bt (s) (0)), .bool true, .bool true, .int .i64 (bt (s) (0)), .bool true, .bool true, .int .i64 (bt (s) (0)), .int .i64 ((bt (s) (0)) - 240)], rfl⟩
                · rw [decide_eq_false c11_4]
                  refine AWp.condF rfl rfl ?_
                  refine AWp.seq (AWp.rowV (l := _) pok ?_)
                  refine sq.c (v := .int .i64 (0)) rfl rfl rfl rfl ?_
                  refine sq.c (v := .int .i64 (0)) rfl rfl rfl rfl ?_
                  refine sq.e ?_
                  refine AWp.ret ?_
                  refine ⟨rfl, [.int .i64 (0), .int .i64 (0)], rfl, .tuple #[.int .i64 (0), .int .i64 (0)], rfl, hs, hn, ?_⟩
                  have hp := bt0_pos c1_1
                  have hb := bt_lt s 0
                  exact rune_tuple (a := 0) (b := 0) (rune_bad hp (by omega)) rfl rfl
              · rw [decide_eq_false c11_1]
                refine sq.s (wantF (g := 2) (d := 35) rfl rfl rfl) rfl ?_
                refine sq.s (wantF (g := 2) (d := 35) rfl rfl rfl) rfl ?_
                refine sq.c (v := .bool false) rfl rfl rfl rfl ?_
                refine sq.e ?_
                refine AWp.condF rfl rfl ?_
                refine AWp.seq (AWp.rowV (l := _) pok ?_)
                refine sq.c (v := .int .i64 (0)) rfl rfl rfl rfl ?_
                refine sq.c (v := .int .i64 (0)) rfl rfl rfl rfl ?_
                refine sq.e ?_
                refine AWp.ret ?_
                refine ⟨rfl, [.int .i64 (0), .int .i64 (0)], rfl, .tuple #[.int .i64 (0), .int .i64 (0)], rfl, hs, hn, ?_⟩
                have hp := bt0_pos c1_1
                have hb := bt_lt s 0
                exact rune_tuple (a := 0) (b := 0) (rune_bad hp (by omega)) rfl rfl
          · rw [decide_eq_false c9_1]
            refine sq.s (wantF (g := 2) (d := 27) rfl rfl rfl) rfl ?_
            refine sq.s (wantF (g := 2) (d := 27) rfl rfl rfl) rfl ?_
            refine sq.c (v := .bool false) rfl rfl rfl rfl ?_
            refine sq.e ?_
            refine AWp.condF rfl rfl ?_
            refine AWp.seq (AWp.rowV (l := _) pok ?_)
            refine sq.c (v := .int .i64 (bt (s) (0))) rfl rfl rfl rfl ?_
            refine sq.c (v := .bool (decide ((240 : Int) ≤ (bt (s) (0))))) rfl rfl rfl rfl ?_
            refine sq.c (v := .bool (decide ((240 : Int) ≤ (bt (s) (0))))) rfl rfl rfl rfl ?_
            by_cases c11_1 : (240 : Int) ≤ (bt (s) (0))
            · rw [decide_eq_true c11_1]
              refine sq.c (v := .int .i64 (bt (s) (0))) (wantT (g := 2) (d := 35) rfl rfl rfl) rfl rfl rfl ?_
              refine sq.c (v := .bool (decide ((bt (s) (0)) < (248 : Int)))) (wantT (g := 2) (d := 35) rfl rfl rfl) rfl rfl rfl ?_
              refine sq.c (v := .bool (decide ((bt (s) (0)) < (248 : Int)))) rfl rfl rfl rfl ?_
              refine sq.e ?_
              by_cases c11_4 : (bt (s) (0)) < (248 : Int)
              · rw [decide_eq_true c11_4]
                refine AWp.condT rfl rfl ?_
                refine AWp.rowV (l := _) pok ?_
                refine sq.c (v := .int .i64 (bt (s) (0))) rfl rfl rfl rfl ?_
                refine sq.c (v := .int .i64 ((bt (s) (0)) - 240)) rfl rfl (okI (wrap_i64 (by have := bt_lt s 0; omega) (by have := bt_lt s 0; omega))) rfl ?_
                refine sq.c (v := .int .i64 (3)) rfl rfl rfl rfl ?_
                refine sq.c (v := .int .i64 ((bt (s) (0)) - 240)) rfl rfl rfl rfl ?_
                refine sq.c (v := .int .i64 (65536)) rfl rfl rfl rfl ?_
                refine sq.e ?_
                have hp := bt0_pos c1_1
                have hL : lead (bt s 0) = (3, 65536, (bt (s) (0)) - 240) := by unfold lead; rw [if_neg (by omega), if_neg (by omega)]
                refine ⟨_, rfl, 3, 65536, (bt (s) (0)) - 240, rfl, hn, hf, (hL), (hp), (by omega), (by omega), getV [undef, undef, .int .i64 (0), .int .i64 (0), undef, undef, undef, undef, undef, undef, undef, undef, undef, undef, undef, undef, undef, .int .i64 (bt (s) (0)), .bool false, .bool false, undef, undef, .bool false, undef, undef, .int .i64 (bt (s) (0)), .bool false, .bool false, undef, undef, .bool false, undef, undef, .int .i64 (bt (s) (0)), .bool true, .bool true, .int .i64 (bt (s) (0)), .bool true, .bool true, .int .i64 (bt (s) (0)), .int .i64 ((bt (s) (0)) - 240)], rfl⟩
              · rw [decide_eq_false c11_4]
                refine AWp.condF rfl rfl ?_
                refine AWp.seq (AWp.rowV (l := _) pok ?_)
                refine sq.c (v := .int .i64 (0)) rfl rfl rfl rfl ?_
                refine sq.c (v := .int .i64 (0)) rfl rfl rfl rfl ?_
                refine sq.e ?_
                refine AWp.ret ?_
                refine ⟨rfl, [.int .i64 (0), .int .i64 (0)], rfl, .tuple #[.int .i64 (0), .int .i64 (0)], rfl, hs, hn, ?_⟩
                have hp := bt0_pos c1_1
                have hb := bt_lt s 0
                exact rune_tuple (a := 0) (b := 0) (rune_bad hp (by omega)) rfl rfl
            · rw [decide_eq_false c11_1]
              refine sq.s (wantF (g := 2) (d := 35) rfl rfl rfl) rfl ?_
              refine sq.s (wantF (g := 2) (d := 35) rfl rfl rfl) rfl ?_
              refine sq.c (v := .bool false) rfl rfl rfl rfl ?_
              refine sq.e ?_
              refine AWp.condF rfl rfl ?_
              refine AWp.seq (AWp.rowV (l := _) pok ?_)
              refine sq.c (v := .int .i64 (0)) rfl rfl rfl rfl ?_
              refine sq.c (v := .int .i64 (0)) rfl rfl rfl rfl ?_
              refine sq.e ?_
              refine AWp.ret ?_
              refine ⟨rfl, [.int .i64 (0), .int .i64 (0)], rfl, .tuple #[.int .i64 (0), .int .i64 (0)], rfl, hs, hn, ?_⟩
              have hp := bt0_pos c1_1
              have hb := bt_lt s 0
              exact rune_tuple (a := 0) (b := 0) (rune_bad hp (by omega)) rfl rfl
      · skip
        rintro vs h' n2 ⟨nn, least, c0, rfl, hn, hf, hL, hp, h1, h2, y1, rfl⟩
        refine AWp.seq (AWp.seq (AWp.rowV (l := _) pok ?_))
        refine sq.c (v := .string (s)) rfl rfl rfl rfl ?_
        refine sq.c (v := .int .i64 ((s).data.toList.length)) rfl rfl (by kernel_rfl) rfl ?_
        refine sq.c (v := .int .i64 (nn)) rfl rfl rfl rfl ?_
        refine sq.c (v := .int .i64 (1 + nn)) rfl rfl (okI (wrap_i64 (by have := lead_bd hL h1 h2; omega) (by have := lead_bd hL h1 h2; omega))) rfl ?_
        refine sq.c (v := .bool (decide ((((s).data.toList.length : Nat) : Int) < (1 + nn)))) rfl rfl rfl rfl ?_
        refine sq.e ?_
        by_cases c14_4 : (((s).data.toList.length : Nat) : Int) < (1 + nn)
        · rw [decide_eq_true c14_4]
          refine AWp.condT rfl rfl ?_
          refine AWp.seq (AWp.rowV (l := _) pok ?_)
          refine sq.c (v := .int .i64 (0)) rfl rfl rfl rfl ?_
          refine sq.c (v := .int .i64 (0)) rfl rfl rfl rfl ?_
          refine sq.e ?_
          refine AWp.ret ?_
          refine ⟨rfl, [.int .i64 (0), .int .i64 (0)], rfl, .tuple #[.int .i64 (0), .int .i64 (0)], rfl, hs, hn, ?_⟩
          exact rune_tuple (a := 0) (b := 0) (rune_short hp h1 h2 (by rw [hL]; exact c14_4)) rfl rfl
        · rw [decide_eq_false c14_4]
          refine AWp.condF rfl rfl ?_
          refine AWp.skip (AWp.seq (AWp.seq (AWp.rowV (l := _) pok ?_)))
          refine sq.c (v := .int .i64 (1)) rfl rfl rfl rfl ?_
          refine sq.e (AWp.block ?_)
          have hq := lead_bd hL h1 h2
          refine AWp.loopV (fun d vs h' n4 => ∃ (k : Nat) (i r : Int), d = (nn - (k : Int) + 1).toNat ∧ h = h' ∧ n ≤ n4 ∧ Free h n4 ∧ (i = (k : Int) + 1) ∧ (r = runeC s c0 k) ∧ ((k : Int) ≤ nn) ∧ (∀ j : Nat, 1 ≤ j → j ≤ k → 128 ≤ bt s (j : Nat) ∧ bt s (j : Nat) < 192) ∧ (0 ≤ r ∧ (k = 0 ∧ r < 32 ∨ k = 1 ∧ r < 2048 ∨ k = 2 ∧ r < 131072 ∨ k = 3 ∧ r < 8388608)) ∧ ∃ y3 : Nat → Value, vs = [.string (s), undef, (y3 2), (y3 3), .int .i64 (r), .int .i64 (nn), .int .i64 (least), .int .i64 (i), (y3 8), .string (s), .bool false, .string (s), .int .u8 (bt (s) (0)), .int .i64 (bt (s) (0)), .int .i64 (bt (s) (0)), .bool false, undef, (y1 17), (y1 18), (y1 19), (y1 20), (y1 21), (y1 22), (y1 23), (y1 24), (y1 25), (y1 26), (y1 27), (y1 28), (y1 29), (y1 30), (y1 31), (y1 32), (y1 33), (y1 34), (y1 35), (y1 36), (y1 37), (y1 38), (y1 39), (y1 40), .string (s), .int .i64 ((s).data.toList.length), .int .i64 (nn), .int .i64 (1 + nn), .bool false, (y3 46), (y3 47), (y3 48), (y3 49), (y3 50), (y3 51), (y3 52), (y3 53), (y3 54), (y3 55), (y3 56), (y3 57), (y3 58), (y3 59), (y3 60), (y3 61), (y3 62), (y3 63), (y3 64), (y3 65), undef, undef, undef, undef, undef, undef, undef, undef, undef, undef, undef, undef, undef, undef, undef, undef, undef, undef]) ((nn - ((0 : Nat) : Int) + 1).toNat) ⟨0, 1, c0, rfl, rfl, hn, hf, (rfl), (rfl), (by omega), (fun j h1 h2 => by omega), (⟨hq.1, .inl ⟨rfl, hq.2.1⟩⟩), getV [undef, undef, (y1 2), (y1 3), undef, undef, undef, undef, undef, undef, undef, undef, undef, undef, undef, undef, undef, undef, undef, undef, undef, undef, undef, undef, undef, undef, undef, undef, undef, undef, undef, undef, undef, undef, undef, undef, undef, undef, undef, undef, undef, undef, undef, undef, undef, undef, undef, undef, undef, undef, undef, undef, undef, undef, undef, undef, undef, undef, undef, undef, undef, undef, undef, undef, undef, undef], rfl⟩ ?_
          rintro d vs h' n4 ⟨k, i, r, rfl, rfl, hn, hf, hik, hr, hk, hb, hbd, y3, rfl⟩
          refine AWp.seq (AWp.seq (AWp.rowV (l := _) pok ?_))
          refine sq.c (v := .int .i64 (i)) rfl rfl rfl rfl ?_
          refine sq.c (v := .int .i64 (nn)) rfl rfl rfl rfl ?_
          refine sq.c (v := .bool (decide (i ≤ nn))) rfl rfl rfl rfl ?_
          refine sq.e ?_
          by_cases c17_2 : i ≤ nn
          · rw [decide_eq_true c17_2]
            refine AWp.condT rfl rfl ?_
            refine AWp.skip (AWp.seq (AWp.block (AWp.seq (AWp.rowV (l := _) pok ?_))))
            refine sq.c (v := .string (s)) rfl rfl rfl rfl ?_
            refine sq.c (v := .int .i64 (i)) rfl rfl rfl rfl ?_
            refine sq.c (v := .int .u8 (bt (s) (i))) rfl rfl (index_str (P := Tryz.prog) (t := 9) (s := s) (i := i) (k := .i64) (by kernel_rfl) (by omega) (by omega)) rfl ?_
            refine sq.c (v := .int .i64 (bt (s) (i))) rfl rfl (Eq.trans (b := some (.int .i64 (IntKind.i64.wrap (bt (s) (i))))) (by kernel_rfl) (okI (wrap_i64 (by have := bt_lt s i; omega) (by have := bt_lt s i; omega)))) rfl ?_
            refine sq.c (v := .int .i64 (bt (s) (i))) rfl rfl rfl rfl ?_
            refine sq.e (AWp.seq (AWp.seq (AWp.rowV (l := _) pok ?_)))
            refine sq.c (v := .int .i64 (bt (s) (i))) rfl rfl rfl rfl ?_
            refine sq.c (v := .bool (decide ((bt (s) (i)) < (128 : Int)))) rfl rfl rfl rfl ?_
            refine sq.c (v := .bool (decide ((bt (s) (i)) < (128 : Int)))) rfl rfl rfl rfl ?_
            by_cases c20_1 : (bt (s) (i)) < (128 : Int)
            · rw [decide_eq_true c20_1]
              refine sq.s (wantF (g := 2) (d := 57) rfl rfl rfl) rfl ?_
              refine sq.s (wantF (g := 2) (d := 57) rfl rfl rfl) rfl ?_
              refine sq.c (v := .bool true) rfl rfl rfl rfl ?_
              refine sq.e ?_
              refine AWp.condT rfl rfl ?_
              refine AWp.seq (AWp.rowV (l := _) pok ?_)
              refine sq.c (v := .int .i64 (0)) rfl rfl rfl rfl ?_
              refine sq.c (v := .int .i64 (0)) rfl rfl rfl rfl ?_
              refine sq.e ?_
              refine AWp.ret ?_
              refine ⟨rfl, [.int .i64 (0), .int .i64 (0)], rfl, .tuple #[.int .i64 (0), .int .i64 (0)], rfl, hs, hn, ?_⟩
              exact rune_tuple (a := 0) (b := 0) (rune_cont (k := k) hp h1 h2 (by rw [hL]; simp only; omega) (by rw [← hik]; omega)) rfl rfl
            · rw [decide_eq_false c20_1]
              refine sq.c (v := .int .i64 (bt (s) (i))) (wantT (g := 2) (d := 57) rfl rfl rfl) rfl rfl rfl ?_
              refine sq.c (v := .bool (decide ((192 : Int) ≤ (bt (s) (i))))) (wantT (g := 2) (d := 57) rfl rfl rfl) rfl rfl rfl ?_
              refine sq.c (v := .bool (decide ((192 : Int) ≤ (bt (s) (i))))) rfl rfl rfl rfl ?_
              refine sq.e ?_
              by_cases c20_4 : (192 : Int) ≤ (bt (s) (i))
              · rw [decide_eq_true c20_4]
                refine AWp.condT rfl rfl ?_
                refine AWp.seq (AWp.rowV (l := _) pok ?_)
                refine sq.c (v := .int .i64 (0)) rfl rfl rfl rfl ?_
                refine sq.c (v := .int .i64 (0)) rfl rfl rfl rfl ?_
                refine sq.e ?_
                refine AWp.ret ?_
                refine ⟨rfl, [.int .i64 (0), .int .i64 (0)], rfl, .tuple #[.int .i64 (0), .int .i64 (0)], rfl, hs, hn, ?_⟩
                exact rune_tuple (a := 0) (b := 0) (rune_cont (k := k) hp h1 h2 (by rw [hL]; simp only; omega) (by rw [← hik]; omega)) rfl rfl
              · rw [decide_eq_false c20_4]
                refine AWp.condF rfl rfl ?_
                refine AWp.skip (AWp.rowV (l := _) pok ?_)
                refine sq.c (v := .int .i64 (r)) rfl rfl rfl rfl ?_
                refine sq.c (v := .int .i64 (r * 64)) rfl rfl (okI (wrap_i64 (by omega) (by omega))) rfl ?_
                refine sq.c (v := .int .i64 (bt (s) (i))) rfl rfl rfl rfl ?_
                refine sq.c (v := .int .i64 ((r * 64) + (bt (s) (i)))) rfl rfl (okI (wrap_i64 (by omega) (by omega))) rfl ?_
                refine sq.c (v := .int .i64 (((r * 64) + (bt (s) (i))) - 128)) rfl rfl (okI (wrap_i64 (by omega) (by omega))) rfl ?_
                refine sq.c (v := .int .i64 (((r * 64) + (bt (s) (i))) - 128)) rfl rfl rfl rfl ?_
                refine sq.e (AWp.rowV (l := _) pok ?_)
                refine sq.c (v := .int .i64 (i)) rfl rfl rfl rfl ?_
                refine sq.c (v := .int .i64 (i + 1)) rfl rfl (okI (wrap_i64 (by omega) (by omega))) rfl ?_
                refine sq.c (v := .int .i64 (i + 1)) rfl rfl rfl rfl ?_
                refine sq.e ?_
                have hy : ∀ j : Nat, 1 ≤ j → j ≤ k + 1 → 128 ≤ bt s (j : Nat) ∧ bt s (j : Nat) < 192 := by
                  intro j h1 h2
                  by_cases e : j ≤ k
                  · exact hb j h1 e
                  · have e : j = k + 1 := by omega
                    subst e
                    have e2 : bt s ((k + 1 : Nat) : Int) = bt s ((k : Int) + 1) := rfl
                    rw [e2, ← hik]; omega
                have hz : runeC s c0 (k + 1) = runeC s c0 k * 64 + bt s i - 128 := by rw [hik]; rfl
                refine ⟨_, _, rfl, by omega, k + 1, i + 1, _, rfl, rfl, hn, hf, (by omega), (by rw [hz, ← hr]), (by omega), (hy), (by omega), getV [undef, undef, (y3 2), (y3 3), undef, undef, undef, undef, .int .i64 (bt (s) (i)), undef, undef, undef, undef, undef, undef, undef, undef, undef, undef, undef, undef, undef, undef, undef, undef, undef, undef, undef, undef, undef, undef, undef, undef, undef, undef, undef, undef, undef, undef, undef, undef, undef, undef, undef, undef, undef, .int .i64 (i), .int .i64 (nn), .bool true, .int .i64 (i), .int .i64 (i + 1), .string (s), .int .i64 (i), .int .u8 (bt (s) (i)), .int .i64 (bt (s) (i)), .int .i64 (bt (s) (i)), .bool false, .bool false, .int .i64 (bt (s) (i)), .bool false, .bool false, .int .i64 (r), .int .i64 (r * 64), .int .i64 (bt (s) (i)), .int .i64 ((r * 64) + (bt (s) (i))), .int .i64 (((r * 64) + (bt (s) (i))) - 128)], rfl⟩
          · rw [decide_eq_false c17_2]
            refine AWp.condF rfl rfl ?_
            refine AWp.exit ?_
            refine AWp.seq (AWp.seq (AWp.rowV (l := _) pok ?_))
            refine sq.c (v := .int .i64 (r)) rfl rfl rfl rfl ?_
            refine sq.c (v := .int .i64 (least)) rfl rfl rfl rfl ?_
            refine sq.c (v := .bool (decide (r < least))) rfl rfl rfl rfl ?_
            refine sq.c (v := .bool (decide (r < least))) rfl rfl rfl rfl ?_
            by_cases c23_2 : r < least
            · rw [decide_eq_true c23_2]
              refine sq.s (wantF (g := 3) (d := 69) rfl rfl rfl) rfl ?_
              refine sq.s (wantF (g := 3) (d := 69) rfl rfl rfl) rfl ?_
              refine sq.c (v := .bool true) rfl rfl rfl rfl ?_
              refine sq.c (v := .bool true) rfl rfl rfl rfl ?_
              refine sq.s (wantF (g := 7) (d := 73) rfl rfl rfl) rfl ?_
              refine sq.s (wantF (g := 7) (d := 73) rfl rfl rfl) rfl ?_
              refine sq.s (wantF (g := 7) (d := 73) rfl rfl rfl) rfl ?_
              refine sq.s (wantU (g := 10) (d := 76) rfl rfl rfl) rfl ?_
              refine sq.s (wantU (g := 10) (d := 76) rfl rfl rfl) rfl ?_
              refine sq.s (wantF (g := 7) (d := 73) rfl rfl rfl) rfl ?_
              refine sq.c (v := .bool true) rfl rfl rfl rfl ?_
              refine sq.e ?_
              refine AWp.condT rfl rfl ?_
              refine AWp.seq (AWp.rowV (l := _) pok ?_)
              refine sq.c (v := .int .i64 (0)) rfl rfl rfl rfl ?_
              refine sq.c (v := .int .i64 (0)) rfl rfl rfl rfl ?_
              refine sq.e ?_
              refine AWp.ret ?_
              refine ⟨rfl, [.int .i64 (0), .int .i64 (0)], rfl, .tuple #[.int .i64 (0), .int .i64 (0)], rfl, hs, hn, ?_⟩
              have he := rune_end (k := k) hp h1 h2 (by rw [hL]; omega) (by rw [hL]; omega) hb
              rw [hL] at he
              simp only at he
              rw [← hr] at he
              exact rune_tuple (a := 0) (b := 0) (he.trans (if_pos (by omega))) rfl rfl
            · rw [decide_eq_false c23_2]
              refine sq.c (v := .int .i64 (r)) (wantT (g := 3) (d := 69) rfl rfl rfl) rfl rfl rfl ?_
              refine sq.c (v := .bool (decide ((1114111 : Int) < r))) (wantT (g := 3) (d := 69) rfl rfl rfl) rfl rfl rfl ?_
              refine sq.c (v := .bool (decide ((1114111 : Int) < r))) rfl rfl rfl rfl ?_
              refine sq.c (v := .bool (decide ((1114111 : Int) < r))) rfl rfl rfl rfl ?_
              by_cases c23_5 : (1114111 : Int) < r
              · rw [decide_eq_true c23_5]
                refine sq.s (wantF (g := 7) (d := 73) rfl rfl rfl) rfl ?_
                refine sq.s (wantF (g := 7) (d := 73) rfl rfl rfl) rfl ?_
                refine sq.s (wantF (g := 7) (d := 73) rfl rfl rfl) rfl ?_
                refine sq.s (wantU (g := 10) (d := 76) rfl rfl rfl) rfl ?_
                refine sq.s (wantU (g := 10) (d := 76) rfl rfl rfl) rfl ?_
                refine sq.s (wantF (g := 7) (d := 73) rfl rfl rfl) rfl ?_
                refine sq.c (v := .bool true) rfl rfl rfl rfl ?_
                refine sq.e ?_
                refine AWp.condT rfl rfl ?_
                refine AWp.seq (AWp.rowV (l := _) pok ?_)
                refine sq.c (v := .int .i64 (0)) rfl rfl rfl rfl ?_
                refine sq.c (v := .int .i64 (0)) rfl rfl rfl rfl ?_
                refine sq.e ?_
                refine AWp.ret ?_
                refine ⟨rfl, [.int .i64 (0), .int .i64 (0)], rfl, .tuple #[.int .i64 (0), .int .i64 (0)], rfl, hs, hn, ?_⟩
                have he := rune_end (k := k) hp h1 h2 (by rw [hL]; omega) (by rw [hL]; omega) hb
                rw [hL] at he
                simp only at he
                rw [← hr] at he
                exact rune_tuple (a := 0) (b := 0) (he.trans (if_pos (by omega))) rfl rfl
              · rw [decide_eq_false c23_5]
                refine sq.c (v := .int .i64 (r)) (wantT (g := 7) (d := 73) rfl rfl rfl) rfl rfl rfl ?_
                refine sq.c (v := .bool (decide ((55296 : Int) ≤ r))) (wantT (g := 7) (d := 73) rfl rfl rfl) rfl rfl rfl ?_
                refine sq.c (v := .bool (decide ((55296 : Int) ≤ r))) (wantT (g := 7) (d := 73) rfl rfl rfl) rfl rfl rfl ?_
                by_cases c23_9 : (55296 : Int) ≤ r
                · rw [decide_eq_true c23_9]
                  refine sq.c (v := .int .i64 (r)) (wantT (g := 10) (d := 76) rfl rfl rfl) rfl rfl rfl ?_
                  refine sq.c (v := .bool (decide (r ≤ (57343 : Int)))) (wantT (g := 10) (d := 76) rfl rfl rfl) rfl rfl rfl ?_
                  refine sq.c (v := .bool (decide (r ≤ (57343 : Int)))) (wantT (g := 7) (d := 73) rfl rfl rfl) rfl rfl rfl ?_
                  refine sq.c (v := .bool (decide (r ≤ (57343 : Int)))) rfl rfl rfl rfl ?_
                  refine sq.e ?_
                  by_cases c23_12 : r ≤ (57343 : Int)
                  · rw [decide_eq_true c23_12]
                    refine AWp.condT rfl rfl ?_
                    refine AWp.seq (AWp.rowV (l := _) pok ?_)
                    refine sq.c (v := .int .i64 (0)) rfl rfl rfl rfl ?_
                    refine sq.c (v := .int .i64 (0)) rfl rfl rfl rfl ?_
                    refine sq.e ?_
                    refine AWp.ret ?_
                    refine ⟨rfl, [.int .i64 (0), .int .i64 (0)], rfl, .tuple #[.int .i64 (0), .int .i64 (0)], rfl, hs, hn, ?_⟩
                    have he := rune_end (k := k) hp h1 h2 (by rw [hL]; omega) (by rw [hL]; omega) hb
                    rw [hL] at he
                    simp only at he
                    rw [← hr] at he
                    exact rune_tuple (a := 0) (b := 0) (he.trans (if_pos (by omega))) rfl rfl
                  · rw [decide_eq_false c23_12]
                    refine AWp.condF rfl rfl ?_
                    refine AWp.skip (AWp.seq (AWp.rowV (l := _) pok ?_))
                    refine sq.c (v := .int .i64 (r)) rfl rfl rfl rfl ?_
                    refine sq.c (v := .int .i64 (nn)) rfl rfl rfl rfl ?_
                    refine sq.c (v := .int .i64 (1 + nn)) rfl rfl (okI (wrap_i64 (by omega) (by omega))) rfl ?_
                    refine sq.c (v := .int .i64 (r)) rfl rfl rfl rfl ?_
                    refine sq.c (v := .int .i64 (1 + nn)) rfl rfl rfl rfl ?_
                    refine sq.e ?_
                    refine AWp.ret ?_
                    refine ⟨rfl, [.int .i64 (r), .int .i64 (1 + nn)], rfl, .tuple #[.int .i64 (r), .int .i64 (1 + nn)], rfl, hs, hn, ?_⟩
                    have he := rune_end (k := k) hp h1 h2 (by rw [hL]; omega) (by rw [hL]; omega) hb
                    rw [hL] at he
                    simp only at he
                    rw [← hr] at he
                    exact rune_tuple (he.trans (if_neg (by omega))) (by omega) (by omega)
                · rw [decide_eq_false c23_9]
                  refine sq.s (wantF (g := 10) (d := 76) rfl rfl rfl) rfl ?_
                  refine sq.s (wantF (g := 10) (d := 76) rfl rfl rfl) rfl ?_
                  refine sq.c (v := .bool false) (wantT (g := 7) (d := 73) rfl rfl rfl) rfl rfl rfl ?_
                  refine sq.c (v := .bool false) rfl rfl rfl rfl ?_
                  refine sq.e ?_
                  refine AWp.condF rfl rfl ?_
                  refine AWp.skip (AWp.seq (AWp.rowV (l := _) pok ?_))
                  refine sq.c (v := .int .i64 (r)) rfl rfl rfl rfl ?_
                  refine sq.c (v := .int .i64 (nn)) rfl rfl rfl rfl ?_
                  refine sq.c (v := .int .i64 (1 + nn)) rfl rfl (okI (wrap_i64 (by omega) (by omega))) rfl ?_
                  refine sq.c (v := .int .i64 (r)) rfl rfl rfl rfl ?_
                  refine sq.c (v := .int .i64 (1 + nn)) rfl rfl rfl rfl ?_
                  refine sq.e ?_
                  refine AWp.ret ?_
                  refine ⟨rfl, [.int .i64 (r), .int .i64 (1 + nn)], rfl, .tuple #[.int .i64 (r), .int .i64 (1 + nn)], rfl, hs, hn, ?_⟩
                  have he := rune_end (k := k) hp h1 h2 (by rw [hL]; omega) (by rw [hL]; omega) hb
                  rw [hL] at he
                  simp only at he
                  rw [← hr] at he
                  exact rune_tuple (he.trans (if_neg (by omega))) (by omega) (by omega)
theorem f22_spec {h : Heap} {n : Nat} (s : ByteArray) (hl : Laid0 h) (hlen : s.data.toList.length < 9223372036854775808) :
    Tells Tryz.prog 22 [.string (s)] h n (.bool (mayValueB s)) := by
  refine Makes.tells (Makes.free fun hf => ?_)
  have hs : SubBut h h [] := .refl _ _
  have hn : n ≤ n := Nat.le_refl _
  have hf0 := hf
  refine Makes.of_bodyV (args := [.string (s)]) (vs := [.string (s), undef, undef, undef, undef, undef, undef, undef, undef, undef, undef, undef, undef, undef, undef, undef, undef, undef, undef, undef, undef, undef, undef, undef, undef, undef, undef, undef, undef]) Tryz.func22 rfl rfl ?_
  refine AWp.seq (AWp.rowV (l := _) pok ?_)
  refine sq.c (v := .bool false) rfl rfl rfl rfl ?_
  refine sq.e (AWp.seq (AWp.rowV (l := _) pok ?_))
  refine sq.c (v := .int .i64 (0)) rfl rfl rfl rfl ?_
  refine sq.e (AWp.seq (AWp.seq (AWp.rowV (l := _) pok ?_)))
  refine sq.c (v := .string (s)) rfl rfl rfl rfl ?_
  have z_n : h.get n = none := hf0 _ hn
  refine sq.op rfl rfl (Does.range (s := s) hf (by kernel_rfl) rfl) ?_
  rintro _ h2 n3 ⟨rfl, hb1⟩ s4 hn2 hf
  refine sq.w ?_
  have hs := hs.trans s4
  have hn := Nat.le_trans hn hn2
  refine sq.e (AWp.block ?_)
  refine AWp.loopV (fun d vs h6 n7 => ∃ (p k : Nat) (ds : List (Nat × Nat)), d = s.data.toList.length - p + 1 ∧ SubBut h h6 [] ∧ n ≤ n7 ∧ Free h6 n7 ∧ h6.get n = some (.siter (s) p) ∧ (k = ds.length) ∧ (ds.length ≤ 64) ∧ (decs s.data.toList = ds ++ decs (s.data.toList.drop p)) ∧ (ds.all okC = true) ∧ (p ≤ s.data.toList.length) ∧ ∃ y5 : Nat → Value, vs = [.string (s), undef, (y5 2), .int .i64 ((k : Int)), undef, (y5 5), .string (s), .pointer (some ⟨n, 0, none⟩), (y5 8), (y5 9), (y5 10), (y5 11), (y5 12), (y5 13), (y5 14), (y5 15), (y5 16), (y5 17), (y5 18), (y5 19), (y5 20), (y5 21), (y5 22), undef, undef, undef, undef, undef, undef]) (s.data.toList.length - 0 + 1) ⟨0, 0, [], rfl, hs, hn, hf, hb1, (rfl), (by simp), (by simp), (rfl), (by omega), getV [undef, undef, .bool false, undef, undef, undef, undef, undef, undef, undef, undef, undef, undef, undef, undef, undef, undef, undef, undef, undef, undef, undef, undef], rfl⟩ ?_
  rintro d vs h6 n7 ⟨p, k, ds, rfl, hs, hn, hf, hb1, hk, hk2, hr, hok, hp, y5, rfl⟩
  refine AWp.seq (AWp.rowV (l := _) pok ?_)
  by_cases c3_0 : p < (s).data.toList.length
  · skip
    refine sq.op rfl rfl (Does.nextYes hf rfl hb1 c3_0) ?_
    rintro _ h10 n11 ⟨rfl, hb8⟩ s12 hn2 hf
    refine sq.w ?_
    have hs := hs.fresh z_n s12
    have hn := Nat.le_trans hn hn2
    refine sq.c (v := .bool true) rfl rfl rfl rfl ?_
    refine sq.e (AWp.seq ?_)
    refine AWp.condT rfl rfl ?_
    refine AWp.skip (AWp.block (AWp.seq (AWp.rowV (l := _) pok ?_)))
    refine sq.c (v := .int .i32 ((Utf8.decode (s) p).1)) rfl rfl rfl rfl ?_
    refine sq.c (v := .int .i32 ((Utf8.decode (s) p).1)) rfl rfl rfl rfl ?_
    refine sq.e (AWp.seq (AWp.rowV (l := _) pok ?_))
    refine sq.c (v := .int .i64 ((k : Int))) rfl rfl rfl rfl ?_
    refine sq.c (v := .int .i64 (((k : Int)) + 1)) rfl rfl (okI (wrap_i64 (by omega) (by omega))) rfl ?_
    refine sq.c (v := .int .i64 (((k : Int)) + 1)) rfl rfl rfl rfl ?_
    refine sq.e (AWp.seq (AWp.rowV (l := _) pok ?_))
    refine sq.c (v := .int .i64 (((k : Int)) + 1)) rfl rfl rfl rfl ?_
    refine sq.c (v := .bool (decide ((64 : Int) < (((k : Int)) + 1)))) rfl rfl rfl rfl ?_
    refine sq.c (v := .bool (decide ((64 : Int) < (((k : Int)) + 1)))) rfl rfl rfl rfl ?_
    by_cases c6_1 : (64 : Int) < (((k : Int)) + 1)
    · rw [decide_eq_true c6_1]
      refine sq.s (wantF (g := 2) (d := 15) rfl rfl rfl) rfl ?_
      refine sq.s (wantF (g := 2) (d := 15) rfl rfl rfl) rfl ?_
      refine sq.c (v := .bool true) rfl rfl rfl rfl ?_
      refine sq.c (v := .bool true) rfl rfl rfl rfl ?_
      refine sq.s (wantF (g := 6) (d := 19) rfl rfl rfl) rfl ?_
      refine sq.s (wantF (g := 6) (d := 19) rfl rfl rfl) rfl ?_
      refine sq.c (v := .bool true) rfl rfl rfl rfl ?_
      refine sq.e ?_
      refine AWp.condT rfl rfl ?_
      refine AWp.seq (AWp.rowV (l := _) pok ?_)
      refine sq.c (v := .bool false) rfl rfl rfl rfl ?_
      refine sq.e ?_
      refine AWp.ret ?_
      refine ⟨rfl, [.bool false], rfl, .bool false, rfl, hs, hn, ?_⟩
      show Value.bool false = .bool (mayValueL s.data.toList)
      rw [mv_long (hr.trans (by rw [(decode_step s p c3_0).1])) (by omega)]
    · rw [decide_eq_false c6_1]
      refine sq.c (v := .int .i32 ((Utf8.decode (s) p).1)) (wantT (g := 2) (d := 15) rfl rfl rfl) rfl rfl rfl ?_
      refine sq.c (v := .bool (decide (((Utf8.decode (s) p).1) < (32 : Int)))) (wantT (g := 2) (d := 15) rfl rfl rfl) rfl rfl rfl ?_
      refine sq.c (v := .bool (decide (((Utf8.decode (s) p).1) < (32 : Int)))) rfl rfl rfl rfl ?_
      refine sq.c (v := .bool (decide (((Utf8.decode (s) p).1) < (32 : Int)))) rfl rfl rfl rfl ?_
      by_cases c6_4 : ((Utf8.decode (s) p).1) < (32 : Int)
      · rw [decide_eq_true c6_4]
        refine sq.s (wantF (g := 6) (d := 19) rfl rfl rfl) rfl ?_
        refine sq.s (wantF (g := 6) (d := 19) rfl rfl rfl) rfl ?_
        refine sq.c (v := .bool true) rfl rfl rfl rfl ?_
        refine sq.e ?_
        refine AWp.condT rfl rfl ?_
        refine AWp.seq (AWp.rowV (l := _) pok ?_)
        refine sq.c (v := .bool false) rfl rfl rfl rfl ?_
        refine sq.e ?_
        refine AWp.ret ?_
        refine ⟨rfl, [.bool false], rfl, .bool false, rfl, hs, hn, ?_⟩
        show Value.bool false = .bool (mayValueL s.data.toList)
        rw [mv_bad (hr.trans (by rw [(decode_step s p c3_0).1])) (by simp [okC]; omega)]
      · rw [decide_eq_false c6_4]
        refine sq.c (v := .int .i32 ((Utf8.decode (s) p).1)) (wantT (g := 6) (d := 19) rfl rfl rfl) rfl rfl rfl ?_
        refine sq.c (v := .bool (decide (((Utf8.decode (s) p).1) = (127 : Int)))) (wantT (g := 6) (d := 19) rfl rfl rfl) rfl rfl rfl ?_
        refine sq.c (v := .bool (decide (((Utf8.decode (s) p).1) = (127 : Int)))) rfl rfl rfl rfl ?_
        refine sq.e ?_
        by_cases c6_8 : ((Utf8.decode (s) p).1) = (127 : Int)
        · rw [decide_eq_true c6_8]
          refine AWp.condT rfl rfl ?_
          refine AWp.seq (AWp.rowV (l := _) pok ?_)
          refine sq.c (v := .bool false) rfl rfl rfl rfl ?_
          refine sq.e ?_
          refine AWp.ret ?_
          refine ⟨rfl, [.bool false], rfl, .bool false, rfl, hs, hn, ?_⟩
          show Value.bool false = .bool (mayValueL s.data.toList)
          rw [mv_bad (hr.trans (by rw [(decode_step s p c3_0).1])) (by simp [okC]; omega)]
        · rw [decide_eq_false c6_8]
          refine AWp.condF rfl rfl ?_
          refine AWp.skip ?_
          obtain ⟨q1, q2, q3⟩ := decode_step s p c3_0
          refine ⟨_, _, rfl, by omega, _, k + 1, ds ++ [Utf8.decode s p], rfl, hs, hn, hf, hb8, (by simp [hk]), (by simp; omega), (by rw [hr, q1]; simp), (by rw [List.all_append, hok]; simp [okC]; omega), (by omega), getV [undef, undef, (y5 2), undef, undef, .int .i32 ((Utf8.decode (s) p).1), undef, undef, .tuple #[.bool true, .int .i64 (p), .int .i32 ((Utf8.decode (s) p).1)], .bool true, .int .i32 ((Utf8.decode (s) p).1), .int .i64 ((k : Int)), .int .i64 (((k : Int)) + 1), .int .i64 (((k : Int)) + 1), .bool false, .bool false, .int .i32 ((Utf8.decode (s) p).1), .bool false, .bool false, .bool false, .int .i32 ((Utf8.decode (s) p).1), .bool false, .bool false], rfl⟩
  · skip
    refine sq.op rfl rfl (Does.nextNo hf rfl hb1 c3_0) ?_
    rintro _ h13 n14 rfl s15 hn2 hf
    refine sq.w ?_
    have hs := hs.trans s15
    have hn := Nat.le_trans hn hn2
    refine sq.c (v := .bool false) rfl rfl rfl rfl ?_
    refine sq.e (AWp.seq ?_)
    refine AWp.condF rfl rfl ?_
    refine AWp.exit ?_
    refine AWp.seq (AWp.rowV (l := _) pok ?_)
    refine sq.c (v := .int .i64 ((k : Int))) rfl rfl rfl rfl ?_
    refine sq.c (v := .bool (decide ((0 : Int) < ((k : Int))))) rfl rfl rfl rfl ?_
    refine sq.c (v := .bool (decide ((0 : Int) < ((k : Int))))) rfl rfl rfl rfl ?_
    by_cases c8_1 : (0 : Int) < ((k : Int))
    · rw [decide_eq_true c8_1]
      refine sq.c (v := .string (s)) (wantT (g := 2) (d := 25) rfl rfl rfl) rfl rfl rfl ?_
      refine sq.t (v := .bool (Lib.validD s.data.toList)) (wantT (g := 2) (d := 25) rfl rfl rfl) (CallsF.fn rfl (by kernel_rfl) rfl rfl) (fun hf => f46_spec _ (hl.keep hs) hlen) hf rfl ?_
      intro n16 hn2 hf
      have hn := Nat.le_trans hn hn2
      refine sq.c (v := .bool (Lib.validD s.data.toList)) rfl rfl rfl rfl ?_
      refine sq.c (v := .bool (Lib.validD s.data.toList)) rfl rfl rfl rfl ?_
      refine sq.e ?_
      refine AWp.ret ?_
      refine ⟨rfl, [.bool (Lib.validD s.data.toList)], rfl, .bool (Lib.validD s.data.toList), rfl, hs, hn, ?_⟩
      show Value.bool (Lib.validD s.data.toList) = .bool (mayValueL s.data.toList)
      have hd : s.data.toList.drop p = [] := List.drop_eq_nil_of_le (by omega)
      rw [hd, decs_nil, List.append_nil] at hr
      rw [mv_end hr hok hk2, decide_eq_true (show 0 < ds.length by omega)]; rfl
    · rw [decide_eq_false c8_1]
      refine sq.s (wantF (g := 2) (d := 25) rfl rfl rfl) rfl ?_
      refine sq.s (wantF (g := 2) (d := 25) rfl rfl rfl) rfl ?_
      refine sq.c (v := .bool false) rfl rfl rfl rfl ?_
      refine sq.c (v := .bool false) rfl rfl rfl rfl ?_
      refine sq.e ?_
      refine AWp.ret ?_
      refine ⟨rfl, [.bool false], rfl, .bool false, rfl, hs, hn, ?_⟩
      show Value.bool false = .bool (mayValueL s.data.toList)
      have hd : s.data.toList.drop p = [] := List.drop_eq_nil_of_le (by omega)
      rw [hd, decs_nil, List.append_nil] at hr
      rw [mv_end hr hok hk2, decide_eq_false (show ¬ 0 < ds.length by omega)]; rfl
theorem f45_spec {h : Heap} {n : Nat} (c : Int) (b : Bool) :
    Tells Tryz.prog 45 [.int .u8 (c), .bool (b)] h n (.bool (letterB c b)) := by
  refine Makes.tells (Makes.free fun hf => ?_)
  have hs : SubBut h h [] := .refl _ _
  have hn : n ≤ n := Nat.le_refl _
  have hf0 := hf
  refine Makes.of_bodyV (args := [.int .u8 (c), .bool (b)]) (vs := [.int .u8 (c), .bool (b), undef, undef, undef, undef, undef, undef, undef, undef, undef, undef, undef, undef, undef, undef, undef, undef, undef, undef, undef, undef, undef, undef, undef, undef, undef, undef, undef, undef]) Tryz.func45 rfl rfl ?_
  refine AWp.seq (AWp.rowV (l := _) pok ?_)
  refine sq.c (v := .bool false) rfl rfl rfl rfl ?_
  refine sq.e (AWp.seq (AWp.block (AWp.seq (AWp.seq (AWp.rowV (l := _) pok ?_)))))
  refine sq.c (v := .int .u8 (c)) rfl rfl rfl rfl ?_
  refine sq.c (v := .bool (decide ((97 : Int) ≤ c))) rfl rfl rfl rfl ?_
  refine sq.c (v := .bool (decide ((97 : Int) ≤ c))) rfl rfl rfl rfl ?_
  by_cases c1_1 : (97 : Int) ≤ c
  · rw [decide_eq_true c1_1]
    refine sq.c (v := .int .u8 (c)) (wantT (g := 2) (d := 8) rfl rfl rfl) rfl rfl rfl ?_
    refine sq.c (v := .bool (decide (c ≤ (122 : Int)))) (wantT (g := 2) (d := 8) rfl rfl rfl) rfl rfl rfl ?_
    refine sq.c (v := .bool (decide (c ≤ (122 : Int)))) rfl rfl rfl rfl ?_
    refine sq.c (v := .bool (decide (c ≤ (122 : Int)))) rfl rfl rfl rfl ?_
    refine sq.e ?_
    by_cases c1_4 : c ≤ (122 : Int)
    · rw [decide_eq_true c1_4]
      refine AWp.condT rfl rfl ?_
      refine AWp.skip ?_
      refine AWp.condT rfl rfl ?_
      refine AWp.seq (AWp.rowV (l := _) pok ?_)
      refine sq.c (v := .bool true) rfl rfl rfl rfl ?_
      refine sq.e ?_
      refine AWp.ret ?_
      refine ⟨rfl, [.bool true], rfl, .bool true, rfl, hs, hn, ?_⟩
      show Value.bool true = .bool (letterB c _)
      rw [letter_yes (by omega)]
    · rw [decide_eq_false c1_4]
      refine AWp.condF rfl rfl ?_
      refine AWp.seq (AWp.rowV (l := _) pok ?_)
      refine sq.c (v := .int .u8 (c)) rfl rfl rfl rfl ?_
      refine sq.c (v := .bool (decide ((65 : Int) ≤ c))) rfl rfl rfl rfl ?_
      refine sq.c (v := .bool (decide ((65 : Int) ≤ c))) rfl rfl rfl rfl ?_
      by_cases c2_1 : (65 : Int) ≤ c
      · rw [decide_eq_true c2_1]
        refine sq.c (v := .int .u8 (c)) (wantT (g := 2) (d := 14) rfl rfl rfl) rfl rfl rfl ?_
        refine sq.c (v := .bool (decide (c ≤ (90 : Int)))) (wantT (g := 2) (d := 14) rfl rfl rfl) rfl rfl rfl ?_
        refine sq.c (v := .bool (decide (c ≤ (90 : Int)))) rfl rfl rfl rfl ?_
        refine sq.c (v := .bool (decide (c ≤ (90 : Int)))) rfl rfl rfl rfl ?_
        refine sq.e ?_
        by_cases c2_4 : c ≤ (90 : Int)
        · rw [decide_eq_true c2_4]
          refine AWp.condT rfl rfl ?_
          refine AWp.skip ?_
          refine AWp.condT rfl rfl ?_
          refine AWp.seq (AWp.rowV (l := _) pok ?_)
          refine sq.c (v := .bool true) rfl rfl rfl rfl ?_
          refine sq.e ?_
          refine AWp.ret ?_
          refine ⟨rfl, [.bool true], rfl, .bool true, rfl, hs, hn, ?_⟩
          show Value.bool true = .bool (letterB c _)
          rw [letter_yes (by omega)]
        · rw [decide_eq_false c2_4]
          refine AWp.condF rfl rfl ?_
          refine AWp.rowV (l := _) pok ?_
          refine sq.c (v := .int .u8 (c)) rfl rfl rfl rfl ?_
          refine sq.c (v := .bool (decide (c = (95 : Int)))) rfl rfl rfl rfl ?_
          refine sq.c (v := .bool (decide (c = (95 : Int)))) rfl rfl rfl rfl ?_
          refine sq.e ?_
          by_cases c3_1 : c = (95 : Int)
          · rw [decide_eq_true c3_1]
            refine AWp.condT rfl rfl ?_
            refine AWp.seq (AWp.rowV (l := _) pok ?_)
            refine sq.c (v := .bool true) rfl rfl rfl rfl ?_
            refine sq.e ?_
            refine AWp.ret ?_
            refine ⟨rfl, [.bool true], rfl, .bool true, rfl, hs, hn, ?_⟩
            show Value.bool true = .bool (letterB c _)
            rw [letter_yes (by omega)]
          · rw [decide_eq_false c3_1]
            refine AWp.condF rfl rfl ?_
            refine AWp.skip (AWp.seq (AWp.rowV (l := _) pok ?_))
            refine sq.c (v := .int .u8 (c)) rfl rfl rfl rfl ?_
            refine sq.c (v := .bool (decide ((48 : Int) ≤ c))) rfl rfl rfl rfl ?_
            refine sq.c (v := .bool (decide ((48 : Int) ≤ c))) rfl rfl rfl rfl ?_
            by_cases c5_1 : (48 : Int) ≤ c
            · rw [decide_eq_true c5_1]
              refine sq.c (v := .int .u8 (c)) (wantT (g := 2) (d := 22) rfl rfl rfl) rfl rfl rfl ?_
              refine sq.c (v := .bool (decide (c ≤ (57 : Int)))) (wantT (g := 2) (d := 22) rfl rfl rfl) rfl rfl rfl ?_
              refine sq.c (v := .bool (decide (c ≤ (57 : Int)))) rfl rfl rfl rfl ?_
              refine sq.c (v := .bool (decide (c ≤ (57 : Int)))) rfl rfl rfl rfl ?_
              by_cases c5_4 : c ≤ (57 : Int)
              · rw [decide_eq_true c5_4]
                refine sq.c (v := .bool (b)) (wantT (g := 6) (d := 26) rfl rfl rfl) rfl rfl rfl ?_
                rcases Bool.eq_false_or_eq_true (b) with cb | cb
                · rw [cb]
                  refine sq.c (v := .bool false) (wantT (g := 6) (d := 26) rfl rfl rfl) rfl rfl rfl ?_
                  refine sq.c (v := .bool false) rfl rfl rfl rfl ?_
                  refine sq.c (v := .bool false) rfl rfl rfl rfl ?_
                  refine sq.e ?_
                  refine AWp.ret ?_
                  refine ⟨rfl, [.bool false], rfl, .bool false, rfl, hs, hn, ?_⟩
                  show Value.bool false = .bool (letterB c _)
                  rw [letter_digit (c := c) (by omega)]; rfl
                · rw [cb]
                  refine sq.c (v := .bool true) rfl rfl rfl rfl ?_
                  refine sq.c (v := .bool true) rfl rfl rfl rfl ?_
                  refine sq.c (v := .bool true) rfl rfl rfl rfl ?_
                  refine sq.e ?_
                  refine AWp.ret ?_
                  refine ⟨rfl, [.bool true], rfl, .bool true, rfl, hs, hn, ?_⟩
                  show Value.bool true = .bool (letterB c _)
                  rw [letter_digit (c := c) (by omega)]; rfl
              · rw [decide_eq_false c5_4]
                refine sq.s (wantF (g := 6) (d := 26) rfl rfl rfl) rfl ?_
                refine sq.s (wantF (g := 6) (d := 26) rfl rfl rfl) rfl ?_
                refine sq.c (v := .bool false) rfl rfl rfl rfl ?_
                refine sq.c (v := .bool false) rfl rfl rfl rfl ?_
                refine sq.e ?_
                refine AWp.ret ?_
                refine ⟨rfl, [.bool false], rfl, .bool false, rfl, hs, hn, ?_⟩
                show Value.bool false = .bool (letterB c _)
                rw [letter_no (by omega) (by omega)]
            · rw [decide_eq_false c5_1]
              refine sq.s (wantF (g := 2) (d := 22) rfl rfl rfl) rfl ?_
              refine sq.s (wantF (g := 2) (d := 22) rfl rfl rfl) rfl ?_
              refine sq.c (v := .bool false) rfl rfl rfl rfl ?_
              refine sq.c (v := .bool false) rfl rfl rfl rfl ?_
              refine sq.s (wantF (g := 6) (d := 26) rfl rfl rfl) rfl ?_
              refine sq.s (wantF (g := 6) (d := 26) rfl rfl rfl) rfl ?_
              refine sq.c (v := .bool false) rfl rfl rfl rfl ?_
              refine sq.c (v := .bool false) rfl rfl rfl rfl ?_
              refine sq.e ?_
              refine AWp.ret ?_
              refine ⟨rfl, [.bool false], rfl, .bool false, rfl, hs, hn, ?_⟩
              show Value.bool false = .bool (letterB c _)
              rw [letter_no (by omega) (by omega)]
      · rw [decide_eq_false c2_1]
        refine sq.s (wantF (g := 2) (d := 14) rfl rfl rfl) rfl ?_
        refine sq.s (wantF (g := 2) (d := 14) rfl rfl rfl) rfl ?_
        refine sq.c (v := .bool false) rfl rfl rfl rfl ?_
        refine sq.c (v := .bool false) rfl rfl rfl rfl ?_
        refine sq.e ?_
        refine AWp.condF rfl rfl ?_
        refine AWp.rowV (l := _) pok ?_
        refine sq.c (v := .int .u8 (c)) rfl rfl rfl rfl ?_
        refine sq.c (v := .bool (decide (c = (95 : Int)))) rfl rfl rfl rfl ?_
        refine sq.c (v := .bool (decide (c = (95 : Int)))) rfl rfl rfl rfl ?_
        refine sq.e ?_
        by_cases c3_1 : c = (95 : Int)
        · rw [decide_eq_true c3_1]
          refine AWp.condT rfl rfl ?_
          refine AWp.seq (AWp.rowV (l := _) pok ?_)
          refine sq.c (v := .bool true) rfl rfl rfl rfl ?_
          refine sq.e ?_
          refine AWp.ret ?_
          refine ⟨rfl, [.bool true], rfl, .bool true, rfl, hs, hn, ?_⟩
          show Value.bool true = .bool (letterB c _)
          rw [letter_yes (by omega)]
        · rw [decide_eq_false c3_1]
          refine AWp.condF rfl rfl ?_
          refine AWp.skip (AWp.seq (AWp.rowV (l := _) pok ?_))
          refine sq.c (v := .int .u8 (c)) rfl rfl rfl rfl ?_
          refine sq.c (v := .bool (decide ((48 : Int) ≤ c))) rfl rfl rfl rfl ?_
          refine sq.c (v := .bool (decide ((48 : Int) ≤ c))) rfl rfl rfl rfl ?_
          by_cases c5_1 : (48 : Int) ≤ c
          · rw [decide_eq_true c5_1]
            refine sq.c (v := .int .u8 (c)) (wantT (g := 2) (d := 22) rfl rfl rfl) rfl rfl rfl ?_
            refine sq.c (v := .bool (decide (c ≤ (57 : Int)))) (wantT (g := 2) (d := 22) rfl rfl rfl) rfl rfl rfl ?_
            refine sq.c (v := .bool (decide (c ≤ (57 : Int)))) rfl rfl rfl rfl ?_
            refine sq.c (v := .bool (decide (c ≤ (57 : Int)))) rfl rfl rfl rfl ?_
            by_cases c5_4 : c ≤ (57 : Int)
            · rw [decide_eq_true c5_4]
              refine sq.c (v := .bool (b)) (wantT (g := 6) (d := 26) rfl rfl rfl) rfl rfl rfl ?_
              rcases Bool.eq_false_or_eq_true (b) with cb | cb
              · rw [cb]
                refine sq.c (v := .bool false) (wantT (g := 6) (d := 26) rfl rfl rfl) rfl rfl rfl ?_
                refine sq.c (v := .bool false) rfl rfl rfl rfl ?_
                refine sq.c (v := .bool false) rfl rfl rfl rfl ?_
                refine sq.e ?_
                refine AWp.ret ?_
                refine ⟨rfl, [.bool false], rfl, .bool false, rfl, hs, hn, ?_⟩
                show Value.bool false = .bool (letterB c _)
                rw [letter_digit (c := c) (by omega)]; rfl
              · rw [cb]
                refine sq.c (v := .bool true) rfl rfl rfl rfl ?_
                refine sq.c (v := .bool true) rfl rfl rfl rfl ?_
                refine sq.c (v := .bool true) rfl rfl rfl rfl ?_
                refine sq.e ?_
                refine AWp.ret ?_
                refine ⟨rfl, [.bool true], rfl, .bool true, rfl, hs, hn, ?_⟩
                show Value.bool true = .bool (letterB c _)
                rw [letter_digit (c := c) (by omega)]; rfl
            · rw [decide_eq_false c5_4]
              refine sq.s (wantF (g := 6) (d := 26) rfl rfl rfl) rfl ?_
              refine sq.s (wantF (g := 6) (d := 26) rfl rfl rfl) rfl ?_
              refine sq.c (v := .bool false) rfl rfl rfl rfl ?_
              refine sq.c (v := .bool false) rfl rfl rfl rfl ?_
              refine sq.e ?_
              refine AWp.ret ?_
              refine ⟨rfl, [.bool false], rfl, .bool false, rfl, hs, hn, ?_⟩
              show Value.bool false = .bool (letterB c _)
              rw [letter_no (by omega) (by omega)]
          · rw [decide_eq_false c5_1]
            refine sq.s (wantF (g := 2) (d := 22) rfl rfl rfl) rfl ?_
            refine sq.s (wantF (g := 2) (d := 22) rfl rfl rfl) rfl ?_
            refine sq.c (v := .bool false) rfl rfl rfl rfl ?_
            refine sq.c (v := .bool false) rfl rfl rfl rfl ?_
            refine sq.s (wantF (g := 6) (d := 26) rfl rfl rfl) rfl ?_
            refine sq.s (wantF (g := 6) (d := 26) rfl rfl rfl) rfl ?_
            refine sq.c (v := .bool false) rfl rfl rfl rfl ?_
            refine sq.c (v := .bool false) rfl rfl rfl rfl ?_
            refine sq.e ?_
            refine AWp.ret ?_
            refine ⟨rfl, [.bool false], rfl, .bool false, rfl, hs, hn, ?_⟩
            show Value.bool false = .bool (letterB c _)
            rw [letter_no (by omega) (by omega)]
  · rw [decide_eq_false c1_1]
    refine sq.s (wantF (g := 2) (d := 8) rfl rfl rfl) rfl ?_
    refine sq.s (wantF (g := 2) (d := 8) rfl rfl rfl) rfl ?_
    refine sq.c (v := .bool false) rfl rfl rfl rfl ?_
    refine sq.c (v := .bool false) rfl rfl rfl rfl ?_
    refine sq.e ?_
    refine AWp.condF rfl rfl ?_
    refine AWp.seq (AWp.rowV (l := _) pok ?_)
    refine sq.c (v := .int .u8 (c)) rfl rfl rfl rfl ?_
    refine sq.c (v := .bool (decide ((65 : Int) ≤ c))) rfl rfl rfl rfl ?_
    refine sq.c (v := .bool (decide ((65 : Int) ≤ c))) rfl rfl rfl rfl ?_
    by_cases c2_1 : (65 : Int) ≤ c
    · rw [decide_eq_true c2_1]
      refine sq.c (v := .int .u8 (c)) (wantT (g := 2) (d := 14) rfl rfl rfl) rfl rfl rfl ?_
      refine sq.c (v := .bool (decide (c ≤ (90 : Int)))) (wantT (g := 2) (d := 14) rfl rfl rfl) rfl rfl rfl ?_
      refine sq.c (v := .bool (decide (c ≤ (90 : Int)))) rfl rfl rfl rfl ?_
      refine sq.c (v := .bool (decide (c ≤ (90 : Int)))) rfl rfl rfl rfl ?_
      refine sq.e ?_
      by_cases c2_4 : c ≤ (90 : Int)
      · rw [decide_eq_true c2_4]
        refine AWp.condT rfl rfl ?_
        refine AWp.skip ?_
        refine AWp.condT rfl rfl ?_
        refine AWp.seq (AWp.rowV (l := _) pok ?_)
        refine sq.c (v := .bool true) rfl rfl rfl rfl ?_
        refine sq.e ?_
        refine AWp.ret ?_
        refine ⟨rfl, [.bool true], rfl, .bool true, rfl, hs, hn, ?_⟩
        show Value.bool true = .bool (letterB c _)
        rw [letter_yes (by omega)]
      · rw [decide_eq_false c2_4]
        refine AWp.condF rfl rfl ?_
        refine AWp.rowV (l := _) pok ?_
        refine sq.c (v := .int .u8 (c)) rfl rfl rfl rfl ?_
        refine sq.c (v := .bool (decide (c = (95 : Int)))) rfl rfl rfl rfl ?_
        refine sq.c (v := .bool (decide (c = (95 : Int)))) rfl rfl rfl rfl ?_
        refine sq.e ?_
        by_cases c3_1 : c = (95 : Int)
        · rw [decide_eq_true c3_1]
          refine AWp.condT rfl rfl ?_
          refine AWp.seq (AWp.rowV (l := _) pok ?_)
          refine sq.c (v := .bool true) rfl rfl rfl rfl ?_
          refine sq.e ?_
          refine AWp.ret ?_
          refine ⟨rfl, [.bool true], rfl, .bool true, rfl, hs, hn, ?_⟩
          show Value.bool true = .bool (letterB c _)
          rw [letter_yes (by omega)]
        · rw [decide_eq_false c3_1]
          refine AWp.condF rfl rfl ?_
          refine AWp.skip (AWp.seq (AWp.rowV (l := _) pok ?_))
          refine sq.c (v := .int .u8 (c)) rfl rfl rfl rfl ?_
          refine sq.c (v := .bool (decide ((48 : Int) ≤ c))) rfl rfl rfl rfl ?_
          refine sq.c (v := .bool (decide ((48 : Int) ≤ c))) rfl rfl rfl rfl ?_
          by_cases c5_1 : (48 : Int) ≤ c
          · rw [decide_eq_true c5_1]
            refine sq.c (v := .int .u8 (c)) (wantT (g := 2) (d := 22) rfl rfl rfl) rfl rfl rfl ?_
            refine sq.c (v := .bool (decide (c ≤ (57 : Int)))) (wantT (g := 2) (d := 22) rfl rfl rfl) rfl rfl rfl ?_
            refine sq.c (v := .bool (decide (c ≤ (57 : Int)))) rfl rfl rfl rfl ?_
            refine sq.c (v := .bool (decide (c ≤ (57 : Int)))) rfl rfl rfl rfl ?_
            by_cases c5_4 : c ≤ (57 : Int)
            · rw [decide_eq_true c5_4]
              refine sq.c (v := .bool (b)) (wantT (g := 6) (d := 26) rfl rfl rfl) rfl rfl rfl ?_
              rcases Bool.eq_false_or_eq_true (b) with cb | cb
              · rw [cb]
                refine sq.c (v := .bool false) (wantT (g := 6) (d := 26) rfl rfl rfl) rfl rfl rfl ?_
                refine sq.c (v := .bool false) rfl rfl rfl rfl ?_
                refine sq.c (v := .bool false) rfl rfl rfl rfl ?_
                refine sq.e ?_
                refine AWp.ret ?_
                refine ⟨rfl, [.bool false], rfl, .bool false, rfl, hs, hn, ?_⟩
                show Value.bool false = .bool (letterB c _)
                rw [letter_digit (c := c) (by omega)]; rfl
              · rw [cb]
                refine sq.c (v := .bool true) rfl rfl rfl rfl ?_
                refine sq.c (v := .bool true) rfl rfl rfl rfl ?_
                refine sq.c (v := .bool true) rfl rfl rfl rfl ?_
                refine sq.e ?_
                refine AWp.ret ?_
                refine ⟨rfl, [.bool true], rfl, .bool true, rfl, hs, hn, ?_⟩
                show Value.bool true = .bool (letterB c _)
                rw [letter_digit (c := c) (by omega)]; rfl
            · rw [decide_eq_false c5_4]
              refine sq.s (wantF (g := 6) (d := 26) rfl rfl rfl) rfl ?_
              refine sq.s (wantF (g := 6) (d := 26) rfl rfl rfl) rfl ?_
              refine sq.c (v := .bool false) rfl rfl rfl rfl ?_
              refine sq.c (v := .bool false) rfl rfl rfl rfl ?_
              refine sq.e ?_
              refine AWp.ret ?_
              refine ⟨rfl, [.bool false], rfl, .bool false, rfl, hs, hn, ?_⟩
              show Value.bool false = .bool (letterB c _)
              rw [letter_no (by omega) (by omega)]
          · rw [decide_eq_false c5_1]
            refine sq.s (wantF (g := 2) (d := 22) rfl rfl rfl) rfl ?_
            refine sq.s (wantF (g := 2) (d := 22) rfl rfl rfl) rfl ?_
            refine sq.c (v := .bool false) rfl rfl rfl rfl ?_
            refine sq.c (v := .bool false) rfl rfl rfl rfl ?_
            refine sq.s (wantF (g := 6) (d := 26) rfl rfl rfl) rfl ?_
            refine sq.s (wantF (g := 6) (d := 26) rfl rfl rfl) rfl ?_
            refine sq.c (v := .bool false) rfl rfl rfl rfl ?_
            refine sq.c (v := .bool false) rfl rfl rfl rfl ?_
            refine sq.e ?_
            refine AWp.ret ?_
            refine ⟨rfl, [.bool false], rfl, .bool false, rfl, hs, hn, ?_⟩
            show Value.bool false = .bool (letterB c _)
            rw [letter_no (by omega) (by omega)]
    · rw [decide_eq_false c2_1]
      refine sq.s (wantF (g := 2) (d := 14) rfl rfl rfl) rfl ?_
      refine sq.s (wantF (g := 2) (d := 14) rfl rfl rfl) rfl ?_
      refine sq.c (v := .bool false) rfl rfl rfl rfl ?_
      refine sq.c (v := .bool false) rfl rfl rfl rfl ?_
      refine sq.e ?_
      refine AWp.condF rfl rfl ?_
      refine AWp.rowV (l := _) pok ?_
      refine sq.c (v := .int .u8 (c)) rfl rfl rfl rfl ?_
      refine sq.c (v := .bool (decide (c = (95 : Int)))) rfl rfl rfl rfl ?_
      refine sq.c (v := .bool (decide (c = (95 : Int)))) rfl rfl rfl rfl ?_
      refine sq.e ?_
      by_cases c3_1 : c = (95 : Int)
      · rw [decide_eq_true c3_1]
        refine AWp.condT rfl rfl ?_
        refine AWp.seq (AWp.rowV (l := _) pok ?_)
        refine sq.c (v := .bool true) rfl rfl rfl rfl ?_
        refine sq.e ?_
        refine AWp.ret ?_
        refine ⟨rfl, [.bool true], rfl, .bool true, rfl, hs, hn, ?_⟩
        show Value.bool true = .bool (letterB c _)
        rw [letter_yes (by omega)]
      · rw [decide_eq_false c3_1]
        refine AWp.condF rfl rfl ?_
        refine AWp.skip (AWp.seq (AWp.rowV (l := _) pok ?_))
        refine sq.c (v := .int .u8 (c)) rfl rfl rfl rfl ?_
        refine sq.c (v := .bool (decide ((48 : Int) ≤ c))) rfl rfl rfl rfl ?_
        refine sq.c (v := .bool (decide ((48 : Int) ≤ c))) rfl rfl rfl rfl ?_
        by_cases c5_1 : (48 : Int) ≤ c
        · rw [decide_eq_true c5_1]
          refine sq.c (v := .int .u8 (c)) (wantT (g := 2) (d := 22) rfl rfl rfl) rfl rfl rfl ?_
          refine sq.c (v := .bool (decide (c ≤ (57 : Int)))) (wantT (g := 2) (d := 22) rfl rfl rfl) rfl rfl rfl ?_
          refine sq.c (v := .bool (decide (c ≤ (57 : Int)))) rfl rfl rfl rfl ?_
          refine sq.c (v := .bool (decide (c ≤ (57 : Int)))) rfl rfl rfl rfl ?_
          by_cases c5_4 : c ≤ (57 : Int)
          · rw [decide_eq_true c5_4]
            refine sq.c (v := .bool (b)) (wantT (g := 6) (d := 26) rfl rfl rfl) rfl rfl rfl ?_
            rcases Bool.eq_false_or_eq_true (b) with cb | cb
            · rw [cb]
              refine sq.c (v := .bool false) (wantT (g := 6) (d := 26) rfl rfl rfl) rfl rfl rfl ?_
              refine sq.c (v := .bool false) rfl rfl rfl rfl ?_
              refine sq.c (v := .bool false) rfl rfl rfl rfl ?_
              refine sq.e ?_
              refine AWp.ret ?_
              refine ⟨rfl, [.bool false], rfl, .bool false, rfl, hs, hn, ?_⟩
              show Value.bool false = .bool (letterB c _)
              rw [letter_digit (c := c) (by omega)]; rfl
            · rw [cb]
              refine sq.c (v := .bool true) rfl rfl rfl rfl ?_
              refine sq.c (v := .bool true) rfl rfl rfl rfl ?_
              refine sq.c (v := .bool true) rfl rfl rfl rfl ?_
              refine sq.e ?_
              refine AWp.ret ?_
              refine ⟨rfl, [.bool true], rfl, .bool true, rfl, hs, hn, ?_⟩
              show Value.bool true = .bool (letterB c _)
              rw [letter_digit (c := c) (by omega)]; rfl
          · rw [decide_eq_false c5_4]
            refine sq.s (wantF (g := 6) (d := 26) rfl rfl rfl) rfl ?_
            refine sq.s (wantF (g := 6) (d := 26) rfl rfl rfl) rfl ?_
            refine sq.c (v := .bool false) rfl rfl rfl rfl ?_
            refine sq.c (v := .bool false) rfl rfl rfl rfl ?_
            refine sq.e ?_
            refine AWp.ret ?_
            refine ⟨rfl, [.bool false], rfl, .bool false, rfl, hs, hn, ?_⟩
            show Value.bool false = .bool (letterB c _)
            rw [letter_no (by omega) (by omega)]
        · rw [decide_eq_false c5_1]
          refine sq.s (wantF (g := 2) (d := 22) rfl rfl rfl) rfl ?_
          refine sq.s (wantF (g := 2) (d := 22) rfl rfl rfl) rfl ?_
          refine sq.c (v := .bool false) rfl rfl rfl rfl ?_
          refine sq.c (v := .bool false) rfl rfl rfl rfl ?_
          refine sq.s (wantF (g := 6) (d := 26) rfl rfl rfl) rfl ?_
          refine sq.s (wantF (g := 6) (d := 26) rfl rfl rfl) rfl ?_
          refine sq.c (v := .bool false) rfl rfl rfl rfl ?_
          refine sq.c (v := .bool false) rfl rfl rfl rfl ?_
          refine sq.e ?_
          refine AWp.ret ?_
          refine ⟨rfl, [.bool false], rfl, .bool false, rfl, hs, hn, ?_⟩
          show Value.bool false = .bool (letterB c _)
          rw [letter_no (by omega) (by omega)]
theorem f20_spec {h : Heap} {n : Nat} (s : ByteArray) (hlen : s.data.toList.length < 9223372036854775808) :
    Tells Tryz.prog 20 [.string (s)] h n (.bool (mayNameB s)) := by
  refine Makes.tells (Makes.free fun hf => ?_)
  have hs : SubBut h h [] := .refl _ _
  have hn : n ≤ n := Nat.le_refl _
  have hf0 := hf
  refine Makes.of_bodyV (args := [.string (s)]) (vs := [.string (s), undef, undef, undef, undef, undef, undef, undef, undef, undef, undef, undef, undef, undef, undef, undef, undef, undef, undef, undef, undef, undef, undef, undef]) Tryz.func20 rfl rfl ?_
  refine AWp.seq (AWp.rowV (l := _) pok ?_)
  refine sq.c (v := .bool false) rfl rfl rfl rfl ?_
  refine sq.e (AWp.seq (AWp.seq (AWp.rowV (l := _) pok ?_)))
  refine sq.c (v := .string (s)) rfl rfl rfl rfl ?_
  refine sq.c (v := .int .i64 ((s).data.toList.length)) rfl rfl (by kernel_rfl) rfl ?_
  refine sq.c (v := .int .i64 (0)) rfl rfl rfl rfl ?_
  refine sq.e (AWp.block ?_)
  refine AWp.loopV (fun d vs h' n2 => ∃ (i : Int), d = ((s.data.toList.length : Nat) - i + 1).toNat ∧ h = h' ∧ n ≤ n2 ∧ Free h n2 ∧ (0 ≤ i) ∧ (i ≤ (s.data.toList.length : Nat)) ∧ (∀ j : Nat, (j : Int) < i → letterB (bt s (j : Nat)) (decide (j = 0)) = true) ∧ ∃ y1 : Nat → Value, vs = [.string (s), undef, (y1 2), (y1 3), .string (s), .int .i64 ((s).data.toList.length), .int .i64 (i), (y1 7), (y1 8), (y1 9), (y1 10), (y1 11), (y1 12), (y1 13), (y1 14), (y1 15), (y1 16), undef, undef, undef, undef, undef, undef, undef]) (((s.data.toList.length : Nat) - (0 : Int) + 1).toNat) ⟨0, rfl, rfl, hn, hf, (by omega), (by omega), (fun j hj => by omega), getV [undef, undef, .bool false, undef, undef, undef, undef, undef, undef, undef, undef, undef, undef, undef, undef, undef, undef], rfl⟩ ?_
  rintro d vs h' n2 ⟨i, rfl, rfl, hn, hf, hi0, hi1, hyes, y1, rfl⟩
  refine AWp.seq (AWp.rowV (l := _) pok ?_)
  refine sq.c (v := .bool (decide (i < (((s).data.toList.length : Nat) : Int)))) rfl rfl rfl rfl ?_
  refine sq.e (AWp.seq ?_)
  by_cases c2_0 : i < (((s).data.toList.length : Nat) : Int)
  · rw [decide_eq_true c2_0]
    refine AWp.condT rfl rfl ?_
    refine AWp.skip (AWp.seq (AWp.block (AWp.seq (AWp.rowV (l := _) pok ?_))))
    refine sq.c (v := .int .i64 (i)) rfl rfl rfl rfl ?_
    refine sq.c (v := .int .i64 (i)) rfl rfl rfl rfl ?_
    refine sq.e (AWp.seq (AWp.rowV (l := _) pok ?_))
    refine sq.c (v := .string (s)) rfl rfl rfl rfl ?_
    refine sq.c (v := .int .i64 (i)) rfl rfl rfl rfl ?_
    refine sq.c (v := .int .u8 (bt (s) (i))) rfl rfl (index_str (P := Tryz.prog) (t := 9) (s := s) (i := i) (k := .i64) (by kernel_rfl) (by omega) (by omega)) rfl ?_
    refine sq.c (v := .int .i64 (i)) rfl rfl rfl rfl ?_
    refine sq.c (v := .bool (decide (i = (0 : Int)))) rfl rfl rfl rfl ?_
    refine sq.t (v := .bool (letterB (bt (s) (i)) (decide (i = (0 : Int))))) rfl (CallsF.fn rfl (by kernel_rfl) rfl rfl) (fun hf => f45_spec _ _) hf rfl ?_
    intro n3 hn2 hf
    have hn := Nat.le_trans hn hn2
    rcases Bool.eq_false_or_eq_true (letterB (bt (s) (i)) (decide (i = (0 : Int)))) with c4_5 | c4_5
    · rw [c4_5]
      refine sq.c (v := .bool false) rfl rfl rfl rfl ?_
      refine sq.e ?_
      refine AWp.condF rfl rfl ?_
      refine AWp.skip (AWp.rowV (l := _) pok ?_)
      refine sq.c (v := .int .i64 (i + 1)) rfl rfl (okI (wrap_i64 (by omega) (by omega))) rfl ?_
      refine sq.c (v := .int .i64 (i + 1)) rfl rfl rfl rfl ?_
      refine sq.e ?_
      have hy : ∀ j : Nat, (j : Int) < i + 1 → letterB (bt s (j : Nat)) (decide (j = 0)) = true := by
        intro j hj
        rcases Int.lt_or_eq_of_le (show (j : Int) ≤ i by omega) with q | q
        · exact hyes j q
        · subst q
          rw [show decide (j = 0) = decide ((j : Int) = 0) from decide_eq_decide.2 (by omega)]
          exact c4_5
      refine ⟨_, _, rfl, by omega, i + 1, rfl, rfl, hn, hf, (by omega), (by omega), (hy), getV [undef, undef, (y1 2), .int .i64 (i), undef, undef, undef, .bool true, .int .i64 (i), .string (s), .int .i64 (i), .int .u8 (bt (s) (i)), .int .i64 (i), .bool (decide (i = (0 : Int))), .bool true, .bool false, .int .i64 (i + 1)], rfl⟩
    · rw [c4_5]
      refine sq.c (v := .bool true) rfl rfl rfl rfl ?_
      refine sq.e ?_
      refine AWp.condT rfl rfl ?_
      refine AWp.seq (AWp.rowV (l := _) pok ?_)
      refine sq.c (v := .bool false) rfl rfl rfl rfl ?_
      refine sq.e ?_
      refine AWp.ret ?_
      refine ⟨rfl, [.bool false], rfl, .bool false, rfl, hs, hn, ?_⟩
      show Value.bool false = .bool (mayNameB s)
      unfold mayNameB
      rw [all_range_false (i := i.toNat) (by omega) (by
        show letterB (bt s ((i.toNat : Nat) : Int)) (decide (i.toNat = 0)) = false
        rw [show ((i.toNat : Nat) : Int) = i by omega, show decide (i.toNat = 0) = decide (i = 0) from decide_eq_decide.2 (by omega)]; exact c4_5), Bool.and_false]
  · rw [decide_eq_false c2_0]
    refine AWp.condF rfl rfl ?_
    refine AWp.exit ?_
    refine AWp.seq (AWp.rowV (l := _) pok ?_)
    refine sq.c (v := .string (s)) rfl rfl rfl rfl ?_
    refine sq.c (v := .bool (!decide (s = (⟨#[]⟩ : ByteArray)))) rfl rfl (neD _ _) rfl ?_
    refine sq.c (v := .bool (!decide (s = (⟨#[]⟩ : ByteArray)))) rfl rfl rfl rfl ?_
    by_cases c7_1 : s = (⟨#[]⟩ : ByteArray)
    · rw [decide_eq_true c7_1]
      refine sq.s (wantF (g := 2) (d := 19) rfl rfl rfl) rfl ?_
      refine sq.s (wantF (g := 2) (d := 19) rfl rfl rfl) rfl ?_
      refine sq.s (wantF (g := 2) (d := 19) rfl rfl rfl) rfl ?_
      refine sq.c (v := .bool false) rfl rfl rfl rfl ?_
      refine sq.c (v := .bool false) rfl rfl rfl rfl ?_
      refine sq.e ?_
      refine AWp.ret ?_
      refine ⟨rfl, [.bool false], rfl, .bool false, rfl, hs, hn, ?_⟩
      show Value.bool false = .bool (mayNameB s)
      subst c7_1; rfl
    · rw [decide_eq_false c7_1]
      refine sq.c (v := .string (s)) (wantT (g := 2) (d := 19) rfl rfl rfl) rfl rfl rfl ?_
      refine sq.c (v := .int .i64 ((s).data.toList.length)) (wantT (g := 2) (d := 19) rfl rfl rfl) rfl (by kernel_rfl) rfl ?_
      refine sq.c (v := .bool (decide ((((s).data.toList.length : Nat) : Int) ≤ (64 : Int)))) (wantT (g := 2) (d := 19) rfl rfl rfl) rfl rfl rfl ?_
      refine sq.c (v := .bool (decide ((((s).data.toList.length : Nat) : Int) ≤ (64 : Int)))) rfl rfl rfl rfl ?_
      refine sq.c (v := .bool (decide ((((s).data.toList.length : Nat) : Int) ≤ (64 : Int)))) rfl rfl rfl rfl ?_
      refine sq.e ?_
      refine AWp.ret ?_
      refine ⟨rfl, [.bool (decide ((((s).data.toList.length : Nat) : Int) ≤ (64 : Int)))], rfl, .bool (decide ((((s).data.toList.length : Nat) : Int) ≤ (64 : Int))), rfl, hs, hn, ?_⟩
      show Value.bool (decide ((((s).data.toList.length : Nat) : Int) ≤ (64 : Int))) = .bool (mayNameB s)
      unfold mayNameB
      have hp := bt0_pos c7_1
      rw [all_range (fun j hj => hyes j (by omega)), Bool.and_true]
      exact congrArg Value.bool (decide_eq_decide.2 (by omega))
theorem f21_spec {h : Heap} {n : Nat} (s : ByteArray) (hlen : s.data.toList.length < 9223372036854775808) :
    Tells Tryz.prog 21 [.string (s)] h n (.bool (mayNameB s)) := by
  refine Makes.tells (Makes.free fun hf => ?_)
  have hs : SubBut h h [] := .refl _ _
  have hn : n ≤ n := Nat.le_refl _
  have hf0 := hf
  refine Makes.of_bodyV (args := [.string (s)]) (vs := [.string (s), undef, undef, undef, undef, undef, undef, undef, undef, undef, undef, undef, undef, undef, undef, undef, undef, undef, undef, undef, undef, undef, undef, undef, undef, undef, undef, undef, undef, undef, undef, undef, undef, undef, undef, undef, undef, undef, undef, undef, undef, undef, undef, undef, undef, undef, undef, undef, undef, undef, undef, undef, undef, undef, undef, undef, undef, undef]) Tryz.func21 rfl rfl ?_
  refine AWp.seq (AWp.rowV (l := _) pok ?_)
  refine sq.c (v := .bool false) rfl rfl rfl rfl ?_
  refine sq.e ?_
  refine AWp.seqJ (fun vs h' n2 => h = h' ∧ n ≤ n2 ∧ Free h n2 ∧ (¬ (48 ≤ bt s 0 ∧ bt s 0 ≤ 57)) ∧ (¬ s = ⟨#[]⟩) ∧ (s.data.toList.length ≤ 64) ∧ ∃ y1 : Nat → Value, vs = [.string (s), undef, (y1 2), undef, undef, (y1 5), (y1 6), (y1 7), (y1 8), (y1 9), (y1 10), (y1 11), (y1 12), (y1 13), (y1 14), (y1 15), (y1 16), (y1 17), (y1 18), (y1 19), (y1 20), (y1 21), undef, undef, undef, undef, undef, undef, undef, undef, undef, undef, undef, undef, undef, undef, undef, undef, undef, undef, undef, undef, undef, undef, undef, undef, undef, undef, undef, undef, undef, undef, undef, undef, undef, undef, undef, undef]) ?_ ?_
  · skip
    refine AWp.seq (AWp.rowV (l := _) pok ?_)
    refine sq.c (v := .string (s)) rfl rfl rfl rfl ?_
    refine sq.c (v := .bool (decide (s = (⟨#[]⟩ : ByteArray)))) rfl rfl (eqD _ _) rfl ?_
    refine sq.c (v := .bool (decide (s = (⟨#[]⟩ : ByteArray)))) rfl rfl rfl rfl ?_
    by_cases c1_1 : s = (⟨#[]⟩ : ByteArray)
    · rw [decide_eq_true c1_1]
      refine sq.s (wantF (g := 2) (d := 7) rfl rfl rfl) rfl ?_
      refine sq.s (wantF (g := 2) (d := 7) rfl rfl rfl) rfl ?_
      refine sq.s (wantF (g := 2) (d := 7) rfl rfl rfl) rfl ?_
      refine sq.c (v := .bool true) rfl rfl rfl rfl ?_
      refine sq.c (v := .bool true) rfl rfl rfl rfl ?_
      refine sq.s (wantF (g := 7) (d := 12) rfl rfl rfl) rfl ?_
      refine sq.s (wantF (g := 7) (d := 12) rfl rfl rfl) rfl ?_
      refine sq.s (wantF (g := 7) (d := 12) rfl rfl rfl) rfl ?_
      refine sq.s (wantF (g := 7) (d := 12) rfl rfl rfl) rfl ?_
      refine sq.s (wantU (g := 11) (d := 16) rfl rfl rfl) rfl ?_
      refine sq.s (wantU (g := 11) (d := 16) rfl rfl rfl) rfl ?_
      refine sq.s (wantU (g := 11) (d := 16) rfl rfl rfl) rfl ?_
      refine sq.s (wantF (g := 7) (d := 12) rfl rfl rfl) rfl ?_
      refine sq.c (v := .bool true) rfl rfl rfl rfl ?_
      refine sq.e ?_
      refine AWp.condT rfl rfl ?_
      refine AWp.seq (AWp.rowV (l := _) pok ?_)
      refine sq.c (v := .bool false) rfl rfl rfl rfl ?_
      refine sq.e ?_
      refine AWp.ret ?_
      refine ⟨rfl, [.bool false], rfl, .bool false, rfl, hs, hn, ?_⟩
      show Value.bool false = .bool (mayNameB s)
      subst c1_1; rfl
    · rw [decide_eq_false c1_1]
      refine sq.c (v := .string (s)) (wantT (g := 2) (d := 7) rfl rfl rfl) rfl rfl rfl ?_
      refine sq.c (v := .int .i64 ((s).data.toList.length)) (wantT (g := 2) (d := 7) rfl rfl rfl) rfl (by kernel_rfl) rfl ?_
      refine sq.c (v := .bool (decide ((64 : Int) < (((s).data.toList.length : Nat) : Int)))) (wantT (g := 2) (d := 7) rfl rfl rfl) rfl rfl rfl ?_
      refine sq.c (v := .bool (decide ((64 : Int) < (((s).data.toList.length : Nat) : Int)))) rfl rfl rfl rfl ?_
      refine sq.c (v := .bool (decide ((64 : Int) < (((s).data.toList.length : Nat) : Int)))) rfl rfl rfl rfl ?_
      by_cases c1_5 : (64 : Int) < (((s).data.toList.length : Nat) : Int)
      · rw [decide_eq_true c1_5]
        refine sq.s (wantF (g := 7) (d := 12) rfl rfl rfl) rfl ?_
        refine sq.s (wantF (g := 7) (d := 12) rfl rfl rfl) rfl ?_
        refine sq.s (wantF (g := 7) (d := 12) rfl rfl rfl) rfl ?_
        refine sq.s (wantF (g := 7) (d := 12) rfl rfl rfl) rfl ?_
        refine sq.s (wantU (g := 11) (d := 16) rfl rfl rfl) rfl ?_
        refine sq.s (wantU (g := 11) (d := 16) rfl rfl rfl) rfl ?_
        refine sq.s (wantU (g := 11) (d := 16) rfl rfl rfl) rfl ?_
        refine sq.s (wantF (g := 7) (d := 12) rfl rfl rfl) rfl ?_
        refine sq.c (v := .bool true) rfl rfl rfl rfl ?_
        refine sq.e ?_
        refine AWp.condT rfl rfl ?_
        refine AWp.seq (AWp.rowV (l := _) pok ?_)
        refine sq.c (v := .bool false) rfl rfl rfl rfl ?_
        refine sq.e ?_
        refine AWp.ret ?_
        refine ⟨rfl, [.bool false], rfl, .bool false, rfl, hs, hn, ?_⟩
        show Value.bool false = .bool (mayNameB s)
        unfold mayNameB
        rw [decide_eq_false (show ¬ (1 ≤ s.data.toList.length ∧ s.data.toList.length ≤ 64) by omega)]; rfl
      · rw [decide_eq_false c1_5]
        refine sq.c (v := .string (s)) (wantT (g := 7) (d := 12) rfl rfl rfl) rfl rfl rfl ?_
        refine sq.c (v := .int .u8 (bt (s) (0))) (wantT (g := 7) (d := 12) rfl rfl rfl) rfl (index_str (P := Tryz.prog) (t := 9) (s := s) (i := 0) (k := .i64) (by kernel_rfl) (by have := bt0_pos c1_1; omega) (by have := bt0_pos c1_1; omega)) rfl ?_
        refine sq.c (v := .bool (decide ((48 : Int) ≤ (bt (s) (0))))) (wantT (g := 7) (d := 12) rfl rfl rfl) rfl rfl rfl ?_
        refine sq.c (v := .bool (decide ((48 : Int) ≤ (bt (s) (0))))) (wantT (g := 7) (d := 12) rfl rfl rfl) rfl rfl rfl ?_
        by_cases c1_10 : (48 : Int) ≤ (bt (s) (0))
        · rw [decide_eq_true c1_10]
          refine sq.c (v := .string (s)) (wantT (g := 11) (d := 16) rfl rfl rfl) rfl rfl rfl ?_
          refine sq.c (v := .int .u8 (bt (s) (0))) (wantT (g := 11) (d := 16) rfl rfl rfl) rfl (index_str (P := Tryz.prog) (t := 9) (s := s) (i := 0) (k := .i64) (by kernel_rfl) (by have := bt0_pos c1_1; omega) (by have := bt0_pos c1_1; omega)) rfl ?_
          refine sq.c (v := .bool (decide ((bt (s) (0)) ≤ (57 : Int)))) (wantT (g := 11) (d := 16) rfl rfl rfl) rfl rfl rfl ?_
          refine sq.c (v := .bool (decide ((bt (s) (0)) ≤ (57 : Int)))) (wantT (g := 7) (d := 12) rfl rfl rfl) rfl rfl rfl ?_
          refine sq.c (v := .bool (decide ((bt (s) (0)) ≤ (57 : Int)))) rfl rfl rfl rfl ?_
          refine sq.e ?_
          by_cases c1_14 : (bt (s) (0)) ≤ (57 : Int)
          · rw [decide_eq_true c1_14]
            refine AWp.condT rfl rfl ?_
            refine AWp.seq (AWp.rowV (l := _) pok ?_)
            refine sq.c (v := .bool false) rfl rfl rfl rfl ?_
            refine sq.e ?_
            refine AWp.ret ?_
            refine ⟨rfl, [.bool false], rfl, .bool false, rfl, hs, hn, ?_⟩
            show Value.bool false = .bool (mayNameB s)
            have hp := bt0_pos c1_1
            unfold mayNameB
            rw [all_range_false (i := 0) hp (by
              show letterB (bt s 0) true = false
              rw [letter_digit (by omega)]; rfl), Bool.and_false]
          · rw [decide_eq_false c1_14]
            refine AWp.condF rfl rfl ?_
            refine AWp.skip ?_
            refine ⟨_, rfl, rfl, hn, hf, (by omega), (c1_1), (by omega), getV [undef, undef, .bool false, undef, undef, .string (s), .bool false, .bool false, .string (s), .int .i64 ((s).data.toList.length), .bool false, .bool false, .bool false, .string (s), .int .u8 (bt (s) (0)), .bool true, .bool true, .string (s), .int .u8 (bt (s) (0)), .bool false, .bool false, .bool false], rfl⟩
        · rw [decide_eq_false c1_10]
          refine sq.s (wantF (g := 11) (d := 16) rfl rfl rfl) rfl ?_
          refine sq.s (wantF (g := 11) (d := 16) rfl rfl rfl) rfl ?_
          refine sq.s (wantF (g := 11) (d := 16) rfl rfl rfl) rfl ?_
          refine sq.c (v := .bool false) (wantT (g := 7) (d := 12) rfl rfl rfl) rfl rfl rfl ?_
          refine sq.c (v := .bool false) rfl rfl rfl rfl ?_
          refine sq.e ?_
          refine AWp.condF rfl rfl ?_
          refine AWp.skip ?_
          refine ⟨_, rfl, rfl, hn, hf, (by omega), (c1_1), (by omega), getV [undef, undef, .bool false, undef, undef, .string (s), .bool false, .bool false, .string (s), .int .i64 ((s).data.toList.length), .bool false, .bool false, .bool false, .string (s), .int .u8 (bt (s) (0)), .bool false, .bool false, undef, undef, undef, .bool false, .bool false], rfl⟩
  · skip
    rintro vs h' n2 ⟨rfl, hn, hf, hnd, c1_1, c1_5, y1, rfl⟩
    refine AWp.seq (AWp.seq (AWp.rowV (l := _) pok ?_))
    refine sq.c (v := .int .i64 (0)) rfl rfl rfl rfl ?_
    refine sq.e (AWp.block ?_)
    refine AWp.loopV (fun d vs h' n4 => ∃ (i : Int), d = ((s.data.toList.length : Nat) - i + 1).toNat ∧ h = h' ∧ n ≤ n4 ∧ Free h n4 ∧ (0 ≤ i) ∧ (i ≤ (s.data.toList.length : Nat)) ∧ (¬ (48 ≤ bt s 0 ∧ bt s 0 ≤ 57)) ∧ (∀ j : Nat, (j : Int) < i → letterB (bt s (j : Nat)) (decide (j = 0)) = true) ∧ ∃ y3 : Nat → Value, vs = [.string (s), undef, (y3 2), .int .i64 (i), (y3 4), (y1 5), (y1 6), (y1 7), (y1 8), (y1 9), (y1 10), (y1 11), (y1 12), (y1 13), (y1 14), (y1 15), (y1 16), (y1 17), (y1 18), (y1 19), (y1 20), (y1 21), (y3 22), (y3 23), (y3 24), (y3 25), (y3 26), (y3 27), (y3 28), (y3 29), (y3 30), (y3 31), (y3 32), (y3 33), (y3 34), (y3 35), (y3 36), (y3 37), (y3 38), (y3 39), (y3 40), (y3 41), (y3 42), (y3 43), (y3 44), (y3 45), (y3 46), (y3 47), (y3 48), (y3 49), (y3 50), (y3 51), (y3 52), (y3 53), (y3 54), (y3 55), (y3 56), (y3 57)]) (((s.data.toList.length : Nat) - (0 : Int) + 1).toNat) ⟨0, rfl, rfl, hn, hf, (by omega), (by omega), (by omega), (fun j hj => by omega), getV [undef, undef, (y1 2), undef, undef, undef, undef, undef, undef, undef, undef, undef, undef, undef, undef, undef, undef, undef, undef, undef, undef, undef, undef, undef, undef, undef, undef, undef, undef, undef, undef, undef, undef, undef, undef, undef, undef, undef, undef, undef, undef, undef, undef, undef, undef, undef, undef, undef, undef, undef, undef, undef, undef, undef, undef, undef, undef, undef], rfl⟩ ?_
    rintro d vs h' n4 ⟨i, rfl, rfl, hn, hf, hi0, hi1, hnd, hyes, y3, rfl⟩
    refine AWp.seq (AWp.seq (AWp.rowV (l := _) pok ?_))
    refine sq.c (v := .int .i64 (i)) rfl rfl rfl rfl ?_
    refine sq.c (v := .string (s)) rfl rfl rfl rfl ?_
    refine sq.c (v := .int .i64 ((s).data.toList.length)) rfl rfl (by kernel_rfl) rfl ?_
    refine sq.c (v := .bool (decide (i < (((s).data.toList.length : Nat) : Int)))) rfl rfl rfl rfl ?_
    refine sq.e ?_
    by_cases c4_3 : i < (((s).data.toList.length : Nat) : Int)
    · rw [decide_eq_true c4_3]
      refine AWp.condT rfl rfl ?_
      refine AWp.skip (AWp.seq (AWp.block (AWp.seq (AWp.rowV (l := _) pok ?_))))
      refine sq.c (v := .string (s)) rfl rfl rfl rfl ?_
      refine sq.c (v := .int .i64 (i)) rfl rfl rfl rfl ?_
      refine sq.c (v := .int .u8 (bt (s) (i))) rfl rfl (index_str (P := Tryz.prog) (t := 9) (s := s) (i := i) (k := .i64) (by kernel_rfl) (by omega) (by omega)) rfl ?_
      refine sq.c (v := .int .u8 (bt (s) (i))) rfl rfl rfl rfl ?_
      refine sq.e (AWp.seq (AWp.rowV (l := _) pok ?_))
      refine sq.c (v := .int .u8 (bt (s) (i))) rfl rfl rfl rfl ?_
      refine sq.c (v := .bool (decide ((97 : Int) ≤ (bt (s) (i))))) rfl rfl rfl rfl ?_
      refine sq.c (v := .bool (decide ((97 : Int) ≤ (bt (s) (i))))) rfl rfl rfl rfl ?_
      by_cases c7_1 : (97 : Int) ≤ (bt (s) (i))
      · rw [decide_eq_true c7_1]
        refine sq.c (v := .int .u8 (bt (s) (i))) (wantT (g := 2) (d := 33) rfl rfl rfl) rfl rfl rfl ?_
        refine sq.c (v := .bool (decide ((bt (s) (i)) ≤ (122 : Int)))) (wantT (g := 2) (d := 33) rfl rfl rfl) rfl rfl rfl ?_
        refine sq.c (v := .bool (decide ((bt (s) (i)) ≤ (122 : Int)))) rfl rfl rfl rfl ?_
        refine sq.c (v := .bool (decide ((bt (s) (i)) ≤ (122 : Int)))) rfl rfl rfl rfl ?_
        by_cases c7_4 : (bt (s) (i)) ≤ (122 : Int)
        · rw [decide_eq_true c7_4]
          refine sq.s (wantF (g := 6) (d := 37) rfl rfl rfl) rfl ?_
          refine sq.s (wantF (g := 6) (d := 37) rfl rfl rfl) rfl ?_
          refine sq.s (wantF (g := 6) (d := 37) rfl rfl rfl) rfl ?_
          refine sq.s (wantU (g := 9) (d := 40) rfl rfl rfl) rfl ?_
          refine sq.s (wantU (g := 9) (d := 40) rfl rfl rfl) rfl ?_
          refine sq.s (wantF (g := 6) (d := 37) rfl rfl rfl) rfl ?_
          refine sq.c (v := .bool true) rfl rfl rfl rfl ?_
          refine sq.c (v := .bool true) rfl rfl rfl rfl ?_
          refine sq.s (wantF (g := 14) (d := 45) rfl rfl rfl) rfl ?_
          refine sq.s (wantF (g := 14) (d := 45) rfl rfl rfl) rfl ?_
          refine sq.s (wantF (g := 14) (d := 45) rfl rfl rfl) rfl ?_
          refine sq.s (wantU (g := 17) (d := 48) rfl rfl rfl) rfl ?_
          refine sq.s (wantU (g := 17) (d := 48) rfl rfl rfl) rfl ?_
          refine sq.s (wantF (g := 14) (d := 45) rfl rfl rfl) rfl ?_
          refine sq.c (v := .bool true) rfl rfl rfl rfl ?_
          refine sq.c (v := .bool true) rfl rfl rfl rfl ?_
          refine sq.s (wantF (g := 22) (d := 53) rfl rfl rfl) rfl ?_
          refine sq.s (wantF (g := 22) (d := 53) rfl rfl rfl) rfl ?_
          refine sq.c (v := .bool true) rfl rfl rfl rfl ?_
          refine sq.c (v := .bool false) rfl rfl rfl rfl ?_
          refine sq.e ?_
          refine AWp.condF rfl rfl ?_
          refine AWp.skip (AWp.rowV (l := _) pok ?_)
          refine sq.c (v := .int .i64 (i)) rfl rfl rfl rfl ?_
          refine sq.c (v := .int .i64 (i + 1)) rfl rfl (okI (wrap_i64 (by omega) (by omega))) rfl ?_
          refine sq.c (v := .int .i64 (i + 1)) rfl rfl rfl rfl ?_
          refine sq.e ?_
          have hy : ∀ j : Nat, (j : Int) < i + 1 → letterB (bt s (j : Nat)) (decide (j = 0)) = true := by
            intro j hj
            rcases Int.lt_or_eq_of_le (show (j : Int) ≤ i by omega) with q | q
            · exact hyes j q
            · subst q
              rw [show decide (j = 0) = decide ((j : Int) = 0) from decide_eq_decide.2 (by omega)]
              exact letter_yes (by omega)
          refine ⟨_, _, rfl, by omega, i + 1, rfl, rfl, hn, hf, (by omega), (by omega), (by omega), (hy), getV [undef, undef, (y3 2), undef, .int .u8 (bt (s) (i)), undef, undef, undef, undef, undef, undef, undef, undef, undef, undef, undef, undef, undef, undef, undef, undef, undef, .int .i64 (i), .string (s), .int .i64 ((s).data.toList.length), .bool true, .int .i64 (i), .int .i64 (i + 1), .string (s), .int .i64 (i), .int .u8 (bt (s) (i)), .int .u8 (bt (s) (i)), .bool true, .bool true, .int .u8 (bt (s) (i)), .bool true, .bool true, .bool true, undef, undef, undef, undef, undef, undef, .bool true, .bool true, undef, undef, undef, undef, undef, undef, .bool true, .bool true, undef, undef, .bool true, .bool false], rfl⟩
        · rw [decide_eq_false c7_4]
          refine sq.c (v := .int .u8 (bt (s) (i))) (wantT (g := 6) (d := 37) rfl rfl rfl) rfl rfl rfl ?_
          refine sq.c (v := .bool (decide ((65 : Int) ≤ (bt (s) (i))))) (wantT (g := 6) (d := 37) rfl rfl rfl) rfl rfl rfl ?_
          refine sq.c (v := .bool (decide ((65 : Int) ≤ (bt (s) (i))))) (wantT (g := 6) (d := 37) rfl rfl rfl) rfl rfl rfl ?_
          by_cases c7_8 : (65 : Int) ≤ (bt (s) (i))
          · rw [decide_eq_true c7_8]
            refine sq.c (v := .int .u8 (bt (s) (i))) (wantT (g := 9) (d := 40) rfl rfl rfl) rfl rfl rfl ?_
            refine sq.c (v := .bool (decide ((bt (s) (i)) ≤ (90 : Int)))) (wantT (g := 9) (d := 40) rfl rfl rfl) rfl rfl rfl ?_
            refine sq.c (v := .bool (decide ((bt (s) (i)) ≤ (90 : Int)))) (wantT (g := 6) (d := 37) rfl rfl rfl) rfl rfl rfl ?_
            refine sq.c (v := .bool (decide ((bt (s) (i)) ≤ (90 : Int)))) rfl rfl rfl rfl ?_
            refine sq.c (v := .bool (decide ((bt (s) (i)) ≤ (90 : Int)))) rfl rfl rfl rfl ?_
            by_cases c7_11 : (bt (s) (i)) ≤ (90 : Int)
            · rw [decide_eq_true c7_11]
              refine sq.s (wantF (g := 14) (d := 45) rfl rfl rfl) rfl ?_
              refine sq.s (wantF (g := 14) (d := 45) rfl rfl rfl) rfl ?_
              refine sq.s (wantF (g := 14) (d := 45) rfl rfl rfl) rfl ?_
              refine sq.s (wantU (g := 17) (d := 48) rfl rfl rfl) rfl ?_
              refine sq.s (wantU (g := 17) (d := 48) rfl rfl rfl) rfl ?_
              refine sq.s (wantF (g := 14) (d := 45) rfl rfl rfl) rfl ?_
              refine sq.c (v := .bool true) rfl rfl rfl rfl ?_
              refine sq.c (v := .bool true) rfl rfl rfl rfl ?_
              refine sq.s (wantF (g := 22) (d := 53) rfl rfl rfl) rfl ?_
              refine sq.s (wantF (g := 22) (d := 53) rfl rfl rfl) rfl ?_
              refine sq.c (v := .bool true) rfl rfl rfl rfl ?_
              refine sq.c (v := .bool false) rfl rfl rfl rfl ?_
              refine sq.e ?_
              refine AWp.condF rfl rfl ?_
              refine AWp.skip (AWp.rowV (l := _) pok ?_)
              refine sq.c (v := .int .i64 (i)) rfl rfl rfl rfl ?_
              refine sq.c (v := .int .i64 (i + 1)) rfl rfl (okI (wrap_i64 (by omega) (by omega))) rfl ?_
              refine sq.c (v := .int .i64 (i + 1)) rfl rfl rfl rfl ?_
              refine sq.e ?_
              have hy : ∀ j : Nat, (j : Int) < i + 1 → letterB (bt s (j : Nat)) (decide (j = 0)) = true := by
                intro j hj
                rcases Int.lt_or_eq_of_le (show (j : Int) ≤ i by omega) with q | q
                · exact hyes j q
                · subst q
                  rw [show decide (j = 0) = decide ((j : Int) = 0) from decide_eq_decide.2 (by omega)]
                  exact letter_yes (by omega)
              refine ⟨_, _, rfl, by omega, i + 1, rfl, rfl, hn, hf, (by omega), (by omega), (by omega), (hy), getV [undef, undef, (y3 2), undef, .int .u8 (bt (s) (i)), undef, undef, undef, undef, undef, undef, undef, undef, undef, undef, undef, undef, undef, undef, undef, undef, undef, .int .i64 (i), .string (s), .int .i64 ((s).data.toList.length), .bool true, .int .i64 (i), .int .i64 (i + 1), .string (s), .int .i64 (i), .int .u8 (bt (s) (i)), .int .u8 (bt (s) (i)), .bool true, .bool true, .int .u8 (bt (s) (i)), .bool false, .bool false, .bool false, .int .u8 (bt (s) (i)), .bool true, .bool true, .int .u8 (bt (s) (i)), .bool true, .bool true, .bool true, .bool true, undef, undef, undef, undef, undef, undef, .bool true, .bool true, undef, undef, .bool true, .bool false], rfl⟩
            · rw [decide_eq_false c7_11]
              refine sq.c (v := .int .u8 (bt (s) (i))) (wantT (g := 14) (d := 45) rfl rfl rfl) rfl rfl rfl ?_
              refine sq.c (v := .bool (decide ((48 : Int) ≤ (bt (s) (i))))) (wantT (g := 14) (d := 45) rfl rfl rfl) rfl rfl rfl ?_
              refine sq.c (v := .bool (decide ((48 : Int) ≤ (bt (s) (i))))) (wantT (g := 14) (d := 45) rfl rfl rfl) rfl rfl rfl ?_
              by_cases c7_16 : (48 : Int) ≤ (bt (s) (i))
              · rw [decide_eq_true c7_16]
                refine sq.c (v := .int .u8 (bt (s) (i))) (wantT (g := 17) (d := 48) rfl rfl rfl) rfl rfl rfl ?_
                refine sq.c (v := .bool (decide ((bt (s) (i)) ≤ (57 : Int)))) (wantT (g := 17) (d := 48) rfl rfl rfl) rfl rfl rfl ?_
                refine sq.c (v := .bool (decide ((bt (s) (i)) ≤ (57 : Int)))) (wantT (g := 14) (d := 45) rfl rfl rfl) rfl rfl rfl ?_
                refine sq.c (v := .bool (decide ((bt (s) (i)) ≤ (57 : Int)))) rfl rfl rfl rfl ?_
                refine sq.c (v := .bool (decide ((bt (s) (i)) ≤ (57 : Int)))) rfl rfl rfl rfl ?_
                by_cases c7_19 : (bt (s) (i)) ≤ (57 : Int)
                · rw [decide_eq_true c7_19]
                  refine sq.s (wantF (g := 22) (d := 53) rfl rfl rfl) rfl ?_
                  refine sq.s (wantF (g := 22) (d := 53) rfl rfl rfl) rfl ?_
                  refine sq.c (v := .bool true) rfl rfl rfl rfl ?_
                  refine sq.c (v := .bool false) rfl rfl rfl rfl ?_
                  refine sq.e ?_
                  refine AWp.condF rfl rfl ?_
                  refine AWp.skip (AWp.rowV (l := _) pok ?_)
                  refine sq.c (v := .int .i64 (i)) rfl rfl rfl rfl ?_
                  refine sq.c (v := .int .i64 (i + 1)) rfl rfl (okI (wrap_i64 (by omega) (by omega))) rfl ?_
                  refine sq.c (v := .int .i64 (i + 1)) rfl rfl rfl rfl ?_
                  refine sq.e ?_
                  have hy : ∀ j : Nat, (j : Int) < i + 1 → letterB (bt s (j : Nat)) (decide (j = 0)) = true := by
                    intro j hj
                    rcases Int.lt_or_eq_of_le (show (j : Int) ≤ i by omega) with q | q
                    · exact hyes j q
                    · subst q
                      rw [show decide (j = 0) = decide ((j : Int) = 0) from decide_eq_decide.2 (by omega)]
                      have hj0 : ¬ (j : Int) = 0 := by
                        intro e
                        rw [e] at c7_16 c7_19
                        exact hnd ⟨c7_16, c7_19⟩
                      rw [letter_digit (by omega), decide_eq_false hj0]; rfl
                  refine ⟨_, _, rfl, by omega, i + 1, rfl, rfl, hn, hf, (by omega), (by omega), (by omega), (hy), getV [undef, undef, (y3 2), undef, .int .u8 (bt (s) (i)), undef, undef, undef, undef, undef, undef, undef, undef, undef, undef, undef, undef, undef, undef, undef, undef, undef, .int .i64 (i), .string (s), .int .i64 ((s).data.toList.length), .bool true, .int .i64 (i), .int .i64 (i + 1), .string (s), .int .i64 (i), .int .u8 (bt (s) (i)), .int .u8 (bt (s) (i)), .bool true, .bool true, .int .u8 (bt (s) (i)), .bool false, .bool false, .bool false, .int .u8 (bt (s) (i)), .bool true, .bool true, .int .u8 (bt (s) (i)), .bool false, .bool false, .bool false, .bool false, .int .u8 (bt (s) (i)), .bool true, .bool true, .int .u8 (bt (s) (i)), .bool true, .bool true, .bool true, .bool true, undef, undef, .bool true, .bool false], rfl⟩
                · rw [decide_eq_false c7_19]
                  refine sq.c (v := .int .u8 (bt (s) (i))) (wantT (g := 22) (d := 53) rfl rfl rfl) rfl rfl rfl ?_
                  refine sq.c (v := .bool (decide ((bt (s) (i)) = (95 : Int)))) (wantT (g := 22) (d := 53) rfl rfl rfl) rfl rfl rfl ?_
                  refine sq.c (v := .bool (decide ((bt (s) (i)) = (95 : Int)))) rfl rfl rfl rfl ?_
                  refine sq.c (v := .bool (!decide ((bt (s) (i)) = (95 : Int)))) rfl rfl rfl rfl ?_
                  refine sq.e ?_
                  by_cases c7_24 : (bt (s) (i)) = (95 : Int)
                  · rw [decide_eq_true c7_24]
                    refine AWp.condF rfl rfl ?_
                    refine AWp.skip (AWp.rowV (l := _) pok ?_)
                    refine sq.c (v := .int .i64 (i)) rfl rfl rfl rfl ?_
                    refine sq.c (v := .int .i64 (i + 1)) rfl rfl (okI (wrap_i64 (by omega) (by omega))) rfl ?_
                    refine sq.c (v := .int .i64 (i + 1)) rfl rfl rfl rfl ?_
                    refine sq.e ?_
                    have hy : ∀ j : Nat, (j : Int) < i + 1 → letterB (bt s (j : Nat)) (decide (j = 0)) = true := by
                      intro j hj
                      rcases Int.lt_or_eq_of_le (show (j : Int) ≤ i by omega) with q | q
                      · exact hyes j q
                      · subst q
                        rw [show decide (j = 0) = decide ((j : Int) = 0) from decide_eq_decide.2 (by omega)]
                        exact letter_yes (by omega)
                    refine ⟨_, _, rfl, by omega, i + 1, rfl, rfl, hn, hf, (by omega), (by omega), (by omega), (hy), getV [undef, undef, (y3 2), undef, .int .u8 (bt (s) (i)), undef, undef, undef, undef, undef, undef, undef, undef, undef, undef, undef, undef, undef, undef, undef, undef, undef, .int .i64 (i), .string (s), .int .i64 ((s).data.toList.length), .bool true, .int .i64 (i), .int .i64 (i + 1), .string (s), .int .i64 (i), .int .u8 (bt (s) (i)), .int .u8 (bt (s) (i)), .bool true, .bool true, .int .u8 (bt (s) (i)), .bool false, .bool false, .bool false, .int .u8 (bt (s) (i)), .bool true, .bool true, .int .u8 (bt (s) (i)), .bool false, .bool false, .bool false, .bool false, .int .u8 (bt (s) (i)), .bool true, .bool true, .int .u8 (bt (s) (i)), .bool false, .bool false, .bool false, .bool false, .int .u8 (bt (s) (i)), .bool true, .bool true, .bool false], rfl⟩
                  · rw [decide_eq_false c7_24]
                    refine AWp.condT rfl rfl ?_
                    refine AWp.seq (AWp.rowV (l := _) pok ?_)
                    refine sq.c (v := .bool false) rfl rfl rfl rfl ?_
                    refine sq.e ?_
                    refine AWp.ret ?_
                    refine ⟨rfl, [.bool false], rfl, .bool false, rfl, hs, hn, ?_⟩
                    show Value.bool false = .bool (mayNameB s)
                    unfold mayNameB
                    rw [all_range_false (i := i.toNat) (by omega) (by
                      show letterB (bt s ((i.toNat : Nat) : Int)) (decide (i.toNat = 0)) = false
                      rw [show ((i.toNat : Nat) : Int) = i by omega]
                      exact letter_no (by omega) (by omega)), Bool.and_false]
              · rw [decide_eq_false c7_16]
                refine sq.s (wantF (g := 17) (d := 48) rfl rfl rfl) rfl ?_
                refine sq.s (wantF (g := 17) (d := 48) rfl rfl rfl) rfl ?_
                refine sq.c (v := .bool false) (wantT (g := 14) (d := 45) rfl rfl rfl) rfl rfl rfl ?_
                refine sq.c (v := .bool false) rfl rfl rfl rfl ?_
                refine sq.c (v := .bool false) rfl rfl rfl rfl ?_
                refine sq.c (v := .int .u8 (bt (s) (i))) (wantT (g := 22) (d := 53) rfl rfl rfl) rfl rfl rfl ?_
                refine sq.c (v := .bool (decide ((bt (s) (i)) = (95 : Int)))) (wantT (g := 22) (d := 53) rfl rfl rfl) rfl rfl rfl ?_
                refine sq.c (v := .bool (decide ((bt (s) (i)) = (95 : Int)))) rfl rfl rfl rfl ?_
                refine sq.c (v := .bool (!decide ((bt (s) (i)) = (95 : Int)))) rfl rfl rfl rfl ?_
                refine sq.e ?_
                by_cases c7_24 : (bt (s) (i)) = (95 : Int)
                · rw [decide_eq_true c7_24]
                  refine AWp.condF rfl rfl ?_
                  refine AWp.skip (AWp.rowV (l := _) pok ?_)
                  refine sq.c (v := .int .i64 (i)) rfl rfl rfl rfl ?_
                  refine sq.c (v := .int .i64 (i + 1)) rfl rfl (okI (wrap_i64 (by omega) (by omega))) rfl ?_
                  refine sq.c (v := .int .i64 (i + 1)) rfl rfl rfl rfl ?_
                  refine sq.e ?_
                  have hy : ∀ j : Nat, (j : Int) < i + 1 → letterB (bt s (j : Nat)) (decide (j = 0)) = true := by
                    intro j hj
                    rcases Int.lt_or_eq_of_le (show (j : Int) ≤ i by omega) with q | q
                    · exact hyes j q
                    · subst q
                      rw [show decide (j = 0) = decide ((j : Int) = 0) from decide_eq_decide.2 (by omega)]
                      exact letter_yes (by omega)
                  refine ⟨_, _, rfl, by omega, i + 1, rfl, rfl, hn, hf, (by omega), (by omega), (by omega), (hy), getV [undef, undef, (y3 2), undef, .int .u8 (bt (s) (i)), undef, undef, undef, undef, undef, undef, undef, undef, undef, undef, undef, undef, undef, undef, undef, undef, undef, .int .i64 (i), .string (s), .int .i64 ((s).data.toList.length), .bool true, .int .i64 (i), .int .i64 (i + 1), .string (s), .int .i64 (i), .int .u8 (bt (s) (i)), .int .u8 (bt (s) (i)), .bool true, .bool true, .int .u8 (bt (s) (i)), .bool false, .bool false, .bool false, .int .u8 (bt (s) (i)), .bool true, .bool true, .int .u8 (bt (s) (i)), .bool false, .bool false, .bool false, .bool false, .int .u8 (bt (s) (i)), .bool false, .bool false, undef, undef, .bool false, .bool false, .bool false, .int .u8 (bt (s) (i)), .bool true, .bool true, .bool false], rfl⟩
                · rw [decide_eq_false c7_24]
                  refine AWp.condT rfl rfl ?_
                  refine AWp.seq (AWp.rowV (l := _) pok ?_)
                  refine sq.c (v := .bool false) rfl rfl rfl rfl ?_
                  refine sq.e ?_
                  refine AWp.ret ?_
                  refine ⟨rfl, [.bool false], rfl, .bool false, rfl, hs, hn, ?_⟩
                  show Value.bool false = .bool (mayNameB s)
                  unfold mayNameB
                  rw [all_range_false (i := i.toNat) (by omega) (by
                    show letterB (bt s ((i.toNat : Nat) : Int)) (decide (i.toNat = 0)) = false
                    rw [show ((i.toNat : Nat) : Int) = i by omega]
                    exact letter_no (by omega) (by omega)), Bool.and_false]
          · rw [decide_eq_false c7_8]
            refine sq.s (wantF (g := 9) (d := 40) rfl rfl rfl) rfl ?_
            refine sq.s (wantF (g := 9) (d := 40) rfl rfl rfl) rfl ?_
            refine sq.c (v := .bool false) (wantT (g := 6) (d := 37) rfl rfl rfl) rfl rfl rfl ?_
            refine sq.c (v := .bool false) rfl rfl rfl rfl ?_
            refine sq.c (v := .bool false) rfl rfl rfl rfl ?_
            refine sq.c (v := .int .u8 (bt (s) (i))) (wantT (g := 14) (d := 45) rfl rfl rfl) rfl rfl rfl ?_
            refine sq.c (v := .bool (decide ((48 : Int) ≤ (bt (s) (i))))) (wantT (g := 14) (d := 45) rfl rfl rfl) rfl rfl rfl ?_
            refine sq.c (v := .bool (decide ((48 : Int) ≤ (bt (s) (i))))) (wantT (g := 14) (d := 45) rfl rfl rfl) rfl rfl rfl ?_
            by_cases c7_16 : (48 : Int) ≤ (bt (s) (i))
            · rw [decide_eq_true c7_16]
              refine sq.c (v := .int .u8 (bt (s) (i))) (wantT (g := 17) (d := 48) rfl rfl rfl) rfl rfl rfl ?_
              refine sq.c (v := .bool (decide ((bt (s) (i)) ≤ (57 : Int)))) (wantT (g := 17) (d := 48) rfl rfl rfl) rfl rfl rfl ?_
              refine sq.c (v := .bool (decide ((bt (s) (i)) ≤ (57 : Int)))) (wantT (g := 14) (d := 45) rfl rfl rfl) rfl rfl rfl ?_
              refine sq.c (v := .bool (decide ((bt (s) (i)) ≤ (57 : Int)))) rfl rfl rfl rfl ?_
              refine sq.c (v := .bool (decide ((bt (s) (i)) ≤ (57 : Int)))) rfl rfl rfl rfl ?_
              by_cases c7_19 : (bt (s) (i)) ≤ (57 : Int)
              · rw [decide_eq_true c7_19]
                refine sq.s (wantF (g := 22) (d := 53) rfl rfl rfl) rfl ?_
                refine sq.s (wantF (g := 22) (d := 53) rfl rfl rfl) rfl ?_
                refine sq.c (v := .bool true) rfl rfl rfl rfl ?_
                refine sq.c (v := .bool false) rfl rfl rfl rfl ?_
                refine sq.e ?_
                refine AWp.condF rfl rfl ?_
                refine AWp.skip (AWp.rowV (l := _) pok ?_)
                refine sq.c (v := .int .i64 (i)) rfl rfl rfl rfl ?_
                refine sq.c (v := .int .i64 (i + 1)) rfl rfl (okI (wrap_i64 (by omega) (by omega))) rfl ?_
                refine sq.c (v := .int .i64 (i + 1)) rfl rfl rfl rfl ?_
                refine sq.e ?_
                have hy : ∀ j : Nat, (j : Int) < i + 1 → letterB (bt s (j : Nat)) (decide (j = 0)) = true := by
                  intro j hj
                  rcases Int.lt_or_eq_of_le (show (j : Int) ≤ i by omega) with q | q
                  · exact hyes j q
                  · subst q
                    rw [show decide (j = 0) = decide ((j : Int) = 0) from decide_eq_decide.2 (by omega)]
                    have hj0 : ¬ (j : Int) = 0 := by
                      intro e
                      rw [e] at c7_16 c7_19
                      exact hnd ⟨c7_16, c7_19⟩
                    rw [letter_digit (by omega), decide_eq_false hj0]; rfl
                refine ⟨_, _, rfl, by omega, i + 1, rfl, rfl, hn, hf, (by omega), (by omega), (by omega), (hy), getV [undef, undef, (y3 2), undef, .int .u8 (bt (s) (i)), undef, undef, undef, undef, undef, undef, undef, undef, undef, undef, undef, undef, undef, undef, undef, undef, undef, .int .i64 (i), .string (s), .int .i64 ((s).data.toList.length), .bool true, .int .i64 (i), .int .i64 (i + 1), .string (s), .int .i64 (i), .int .u8 (bt (s) (i)), .int .u8 (bt (s) (i)), .bool true, .bool true, .int .u8 (bt (s) (i)), .bool false, .bool false, .bool false, .int .u8 (bt (s) (i)), .bool false, .bool false, undef, undef, .bool false, .bool false, .bool false, .int .u8 (bt (s) (i)), .bool true, .bool true, .int .u8 (bt (s) (i)), .bool true, .bool true, .bool true, .bool true, undef, undef, .bool true, .bool false], rfl⟩
              · rw [decide_eq_false c7_19]
                refine sq.c (v := .int .u8 (bt (s) (i))) (wantT (g := 22) (d := 53) rfl rfl rfl) rfl rfl rfl ?_
                refine sq.c (v := .bool (decide ((bt (s) (i)) = (95 : Int)))) (wantT (g := 22) (d := 53) rfl rfl rfl) rfl rfl rfl ?_
                refine sq.c (v := .bool (decide ((bt (s) (i)) = (95 : Int)))) rfl rfl rfl rfl ?_
                refine sq.c (v := .bool (!decide ((bt (s) (i)) = (95 : Int)))) rfl rfl rfl rfl ?_
                refine sq.e ?_
                by_cases c7_24 : (bt (s) (i)) = (95 : Int)
                · rw [decide_eq_true c7_24]
                  refine AWp.condF rfl rfl ?_
                  refine AWp.skip (AWp.rowV (l := _) pok ?_)
                  refine sq.c (v := .int .i64 (i)) rfl rfl rfl rfl ?_
                  refine sq.c (v := .int .i64 (i + 1)) rfl rfl (okI (wrap_i64 (by omega) (by omega))) rfl ?_
                  refine sq.c (v := .int .i64 (i + 1)) rfl rfl rfl rfl ?_
                  refine sq.e ?_
                  have hy : ∀ j : Nat, (j : Int) < i + 1 → letterB (bt s (j : Nat)) (decide (j = 0)) = true := by
                    intro j hj
                    rcases Int.lt_or_eq_of_le (show (j : Int) ≤ i by omega) with q | q
                    · exact hyes j q
                    · subst q
                      rw [show decide (j = 0) = decide ((j : Int) = 0) from decide_eq_decide.2 (by omega)]
                      exact letter_yes (by omega)
                  refine ⟨_, _, rfl, by omega, i + 1, rfl, rfl, hn, hf, (by omega), (by omega), (by omega), (hy), getV [undef, undef, (y3 2), undef, .int .u8 (bt (s) (i)), undef, undef, undef, undef, undef, undef, undef, undef, undef, undef, undef, undef, undef, undef, undef, undef, undef, .int .i64 (i), .string (s), .int .i64 ((s).data.toList.length), .bool true, .int .i64 (i), .int .i64 (i + 1), .string (s), .int .i64 (i), .int .u8 (bt (s) (i)), .int .u8 (bt (s) (i)), .bool true, .bool true, .int .u8 (bt (s) (i)), .bool false, .bool false, .bool false, .int .u8 (bt (s) (i)), .bool false, .bool false, undef, undef, .bool false, .bool false, .bool false, .int .u8 (bt (s) (i)), .bool true, .bool true, .int .u8 (bt (s) (i)), .bool false, .bool false, .bool false, .bool false, .int .u8 (bt (s) (i)), .bool true, .bool true, .bool false], rfl⟩
                · rw [decide_eq_false c7_24]
                  refine AWp.condT rfl rfl ?_
                  refine AWp.seq (AWp.rowV (l := _) pok ?_)
                  refine sq.c (v := .bool false) rfl rfl rfl rfl ?_
                  refine sq.e ?_
                  refine AWp.ret ?_
                  refine ⟨rfl, [.bool false], rfl, .bool false, rfl, hs, hn, ?_⟩
                  show Value.bool false = .bool (mayNameB s)
                  unfold mayNameB
                  rw [all_range_false (i := i.toNat) (by omega) (by
                    show letterB (bt s ((i.toNat : Nat) : Int)) (decide (i.toNat = 0)) = false
                    rw [show ((i.toNat : Nat) : Int) = i by omega]
                    exact letter_no (by omega) (by omega)), Bool.and_false]
            · rw [decide_eq_false c7_16]
              refine sq.s (wantF (g := 17) (d := 48) rfl rfl rfl) rfl ?_
              refine sq.s (wantF (g := 17) (d := 48) rfl rfl rfl) rfl ?_
              refine sq.c (v := .bool false) (wantT (g := 14) (d := 45) rfl rfl rfl) rfl rfl rfl ?_
              refine sq.c (v := .bool false) rfl rfl rfl rfl ?_
              refine sq.c (v := .bool false) rfl rfl rfl rfl ?_
              refine sq.c (v := .int .u8 (bt (s) (i))) (wantT (g := 22) (d := 53) rfl rfl rfl) rfl rfl rfl ?_
              refine sq.c (v := .bool (decide ((bt (s) (i)) = (95 : Int)))) (wantT (g := 22) (d := 53) rfl rfl rfl) rfl rfl rfl ?_
              refine sq.c (v := .bool (decide ((bt (s) (i)) = (95 : Int)))) rfl rfl rfl rfl ?_
              refine sq.c (v := .bool (!decide ((bt (s) (i)) = (95 : Int)))) rfl rfl rfl rfl ?_
              refine sq.e ?_
              by_cases c7_24 : (bt (s) (i)) = (95 : Int)
              · rw [decide_eq_true c7_24]
                refine AWp.condF rfl rfl ?_
                refine AWp.skip (AWp.rowV (l := _) pok ?_)
                refine sq.c (v := .int .i64 (i)) rfl rfl rfl rfl ?_
                refine sq.c (v := .int .i64 (i + 1)) rfl rfl (okI (wrap_i64 (by omega) (by omega))) rfl ?_
                refine sq.c (v := .int .i64 (i + 1)) rfl rfl rfl rfl ?_
                refine sq.e ?_
                have hy : ∀ j : Nat, (j : Int) < i + 1 → letterB (bt s (j : Nat)) (decide (j = 0)) = true := by
                  intro j hj
                  rcases Int.lt_or_eq_of_le (show (j : Int) ≤ i by omega) with q | q
                  · exact hyes j q
                  · subst q
                    rw [show decide (j = 0) = decide ((j : Int) = 0) from decide_eq_decide.2 (by omega)]
                    exact letter_yes (by omega)
                refine ⟨_, _, rfl, by omega, i + 1, rfl, rfl, hn, hf, (by omega), (by omega), (by omega), (hy), getV [undef, undef, (y3 2), undef, .int .u8 (bt (s) (i)), undef, undef, undef, undef, undef, undef, undef, undef, undef, undef, undef, undef, undef, undef, undef, undef, undef, .int .i64 (i), .string (s), .int .i64 ((s).data.toList.length), .bool true, .int .i64 (i), .int .i64 (i + 1), .string (s), .int .i64 (i), .int .u8 (bt (s) (i)), .int .u8 (bt (s) (i)), .bool true, .bool true, .int .u8 (bt (s) (i)), .bool false, .bool false, .bool false, .int .u8 (bt (s) (i)), .bool false, .bool false, undef, undef, .bool false, .bool false, .bool false, .int .u8 (bt (s) (i)), .bool false, .bool false, undef, undef, .bool false, .bool false, .bool false, .int .u8 (bt (s) (i)), .bool true, .bool true, .bool false], rfl⟩
              · rw [decide_eq_false c7_24]
                refine AWp.condT rfl rfl ?_
                refine AWp.seq (AWp.rowV (l := _) pok ?_)
                refine sq.c (v := .bool false) rfl rfl rfl rfl ?_
                refine sq.e ?_
                refine AWp.ret ?_
                refine ⟨rfl, [.bool false], rfl, .bool false, rfl, hs, hn, ?_⟩
                show Value.bool false = .bool (mayNameB s)
                unfold mayNameB
                rw [all_range_false (i := i.toNat) (by omega) (by
                  show letterB (bt s ((i.toNat : Nat) : Int)) (decide (i.toNat = 0)) = false
                  rw [show ((i.toNat : Nat) : Int) = i by omega]
                  exact letter_no (by omega) (by omega)), Bool.and_false]
      · rw [decide_eq_false c7_1]
        refine sq.s (wantF (g := 2) (d := 33) rfl rfl rfl) rfl ?_
        refine sq.s (wantF (g := 2) (d := 33) rfl rfl rfl) rfl ?_
        refine sq.c (v := .bool false) rfl rfl rfl rfl ?_
        refine sq.c (v := .bool false) rfl rfl rfl rfl ?_
        refine sq.c (v := .int .u8 (bt (s) (i))) (wantT (g := 6) (d := 37) rfl rfl rfl) rfl rfl rfl ?_
        refine sq.c (v := .bool (decide ((65 : Int) ≤ (bt (s) (i))))) (wantT (g := 6) (d := 37) rfl rfl rfl) rfl rfl rfl ?_
        refine sq.c (v := .bool (decide ((65 : Int) ≤ (bt (s) (i))))) (wantT (g := 6) (d := 37) rfl rfl rfl) rfl rfl rfl ?_
        by_cases c7_8 : (65 : Int) ≤ (bt (s) (i))
        · rw [decide_eq_true c7_8]
          refine sq.c (v := .int .u8 (bt (s) (i))) (wantT (g := 9) (d := 40) rfl rfl rfl) rfl rfl rfl ?_
          refine sq.c (v := .bool (decide ((bt (s) (i)) ≤ (90 : Int)))) (wantT (g := 9) (d := 40) rfl rfl rfl) rfl rfl rfl ?_
          refine sq.c (v := .bool (decide ((bt (s) (i)) ≤ (90 : Int)))) (wantT (g := 6) (d := 37) rfl rfl rfl) rfl rfl rfl ?_
          refine sq.c (v := .bool (decide ((bt (s) (i)) ≤ (90 : Int)))) rfl rfl rfl rfl ?_
          refine sq.c (v := .bool (decide ((bt (s) (i)) ≤ (90 : Int)))) rfl rfl rfl rfl ?_
          by_cases c7_11 : (bt (s) (i)) ≤ (90 : Int)
          · rw [decide_eq_true c7_11]
            refine sq.s (wantF (g := 14) (d := 45) rfl rfl rfl) rfl ?_
            refine sq.s (wantF (g := 14) (d := 45) rfl rfl rfl) rfl ?_
            refine sq.s (wantF (g := 14) (d := 45) rfl rfl rfl) rfl ?_
            refine sq.s (wantU (g := 17) (d := 48) rfl rfl rfl) rfl ?_
            refine sq.s (wantU (g := 17) (d := 48) rfl rfl rfl) rfl ?_
            refine sq.s (wantF (g := 14) (d := 45) rfl rfl rfl) rfl ?_
            refine sq.c (v := .bool true) rfl rfl rfl rfl ?_
            refine sq.c (v := .bool true) rfl rfl rfl rfl ?_
            refine sq.s (wantF (g := 22) (d := 53) rfl rfl rfl) rfl ?_
            refine sq.s (wantF (g := 22) (d := 53) rfl rfl rfl) rfl ?_
            refine sq.c (v := .bool true) rfl rfl rfl rfl ?_
            refine sq.c (v := .bool false) rfl rfl rfl rfl ?_
            refine sq.e ?_
            refine AWp.condF rfl rfl ?_
            refine AWp.skip (AWp.rowV (l := _) pok ?_)
            refine sq.c (v := .int .i64 (i)) rfl rfl rfl rfl ?_
            refine sq.c (v := .int .i64 (i + 1)) rfl rfl (okI (wrap_i64 (by omega) (by omega))) rfl ?_
            refine sq.c (v := .int .i64 (i + 1)) rfl rfl rfl rfl ?_
            refine sq.e ?_
            have hy : ∀ j : Nat, (j : Int) < i + 1 → letterB (bt s (j : Nat)) (decide (j = 0)) = true := by
              intro j hj
              rcases Int.lt_or_eq_of_le (show (j : Int) ≤ i by omega) with q | q
              · exact hyes j q
              · subst q
                rw [show decide (j = 0) = decide ((j : Int) = 0) from decide_eq_decide.2 (by omega)]
                exact letter_yes (by omega)
            refine ⟨_, _, rfl, by omega, i + 1, rfl, rfl, hn, hf, (by omega), (by omega), (by omega), (hy), getV [undef, undef, (y3 2), undef, .int .u8 (bt (s) (i)), undef, undef, undef, undef, undef, undef, undef, undef, undef, undef, undef, undef, undef, undef, undef, undef, undef, .int .i64 (i), .string (s), .int .i64 ((s).data.toList.length), .bool true, .int .i64 (i), .int .i64 (i + 1), .string (s), .int .i64 (i), .int .u8 (bt (s) (i)), .int .u8 (bt (s) (i)), .bool false, .bool false, undef, undef, .bool false, .bool false, .int .u8 (bt (s) (i)), .bool true, .bool true, .int .u8 (bt (s) (i)), .bool true, .bool true, .bool true, .bool true, undef, undef, undef, undef, undef, undef, .bool true, .bool true, undef, undef, .bool true, .bool false], rfl⟩
          · rw [decide_eq_false c7_11]
            refine sq.c (v := .int .u8 (bt (s) (i))) (wantT (g := 14) (d := 45) rfl rfl rfl) rfl rfl rfl ?_
            refine sq.c (v := .bool (decide ((48 : Int) ≤ (bt (s) (i))))) (wantT (g := 14) (d := 45) rfl rfl rfl) rfl rfl rfl ?_
            refine sq.c (v := .bool (decide ((48 : Int) ≤ (bt (s) (i))))) (wantT (g := 14) (d := 45) rfl rfl rfl) rfl rfl rfl ?_
            by_cases c7_16 : (48 : Int) ≤ (bt (s) (i))
            · rw [decide_eq_true c7_16]
              refine sq.c (v := .int .u8 (bt (s) (i))) (wantT (g := 17) (d := 48) rfl rfl rfl) rfl rfl rfl ?_
              refine sq.c (v := .bool (decide ((bt (s) (i)) ≤ (57 : Int)))) (wantT (g := 17) (d := 48) rfl rfl rfl) rfl rfl rfl ?_
              refine sq.c (v := .bool (decide ((bt (s) (i)) ≤ (57 : Int)))) (wantT (g := 14) (d := 45) rfl rfl rfl) rfl rfl rfl ?_
              refine sq.c (v := .bool (decide ((bt (s) (i)) ≤ (57 : Int)))) rfl rfl rfl rfl ?_
              refine sq.c (v := .bool (decide ((bt (s) (i)) ≤ (57 : Int)))) rfl rfl rfl rfl ?_
              by_cases c7_19 : (bt (s) (i)) ≤ (57 : Int)
              · rw [decide_eq_true c7_19]
                refine sq.s (wantF (g := 22) (d := 53) rfl rfl rfl) rfl ?_
                refine sq.s (wantF (g := 22) (d := 53) rfl rfl rfl) rfl ?_
                refine sq.c (v := .bool true) rfl rfl rfl rfl ?_
                refine sq.c (v := .bool false) rfl rfl rfl rfl ?_
                refine sq.e ?_
                refine AWp.condF rfl rfl ?_
                refine AWp.skip (AWp.rowV (l := _) pok ?_)
                refine sq.c (v := .int .i64 (i)) rfl rfl rfl rfl ?_
                refine sq.c (v := .int .i64 (i + 1)) rfl rfl (okI (wrap_i64 (by omega) (by omega))) rfl ?_
                refine sq.c (v := .int .i64 (i + 1)) rfl rfl rfl rfl ?_
                refine sq.e ?_
                have hy : ∀ j : Nat, (j : Int) < i + 1 → letterB (bt s (j : Nat)) (decide (j = 0)) = true := by
                  intro j hj
                  rcases Int.lt_or_eq_of_le (show (j : Int) ≤ i by omega) with q | q
                  · exact hyes j q
                  · subst q
                    rw [show decide (j = 0) = decide ((j : Int) = 0) from decide_eq_decide.2 (by omega)]
                    have hj0 : ¬ (j : Int) = 0 := by
                      intro e
                      rw [e] at c7_16 c7_19
                      exact hnd ⟨c7_16, c7_19⟩
                    rw [letter_digit (by omega), decide_eq_false hj0]; rfl
                refine ⟨_, _, rfl, by omega, i + 1, rfl, rfl, hn, hf, (by omega), (by omega), (by omega), (hy), getV [undef, undef, (y3 2), undef, .int .u8 (bt (s) (i)), undef, undef, undef, undef, undef, undef, undef, undef, undef, undef, undef, undef, undef, undef, undef, undef, undef, .int .i64 (i), .string (s), .int .i64 ((s).data.toList.length), .bool true, .int .i64 (i), .int .i64 (i + 1), .string (s), .int .i64 (i), .int .u8 (bt (s) (i)), .int .u8 (bt (s) (i)), .bool false, .bool false, undef, undef, .bool false, .bool false, .int .u8 (bt (s) (i)), .bool true, .bool true, .int .u8 (bt (s) (i)), .bool false, .bool false, .bool false, .bool false, .int .u8 (bt (s) (i)), .bool true, .bool true, .int .u8 (bt (s) (i)), .bool true, .bool true, .bool true, .bool true, undef, undef, .bool true, .bool false], rfl⟩
              · rw [decide_eq_false c7_19]
                refine sq.c (v := .int .u8 (bt (s) (i))) (wantT (g := 22) (d := 53) rfl rfl rfl) rfl rfl rfl ?_
                refine sq.c (v := .bool (decide ((bt (s) (i)) = (95 : Int)))) (wantT (g := 22) (d := 53) rfl rfl rfl) rfl rfl rfl ?_
                refine sq.c (v := .bool (decide ((bt (s) (i)) = (95 : Int)))) rfl rfl rfl rfl ?_
                refine sq.c (v := .bool (!decide ((bt (s) (i)) = (95 : Int)))) rfl rfl rfl rfl ?_
                refine sq.e ?_
                by_cases c7_24 : (bt (s) (i)) = (95 : Int)
                · rw [decide_eq_true c7_24]
                  refine AWp.condF rfl rfl ?_
                  refine AWp.skip (AWp.rowV (l := _) pok ?_)
                  refine sq.c (v := .int .i64 (i)) rfl rfl rfl rfl ?_
                  refine sq.c (v := .int .i64 (i + 1)) rfl rfl (okI (wrap_i64 (by omega) (by omega))) rfl ?_
                  refine sq.c (v := .int .i64 (i + 1)) rfl rfl rfl rfl ?_
                  refine sq.e ?_
                  have hy : ∀ j : Nat, (j : Int) < i + 1 → letterB (bt s (j : Nat)) (decide (j = 0)) = true := by
                    intro j hj
                    rcases Int.lt_or_eq_of_le (show (j : Int) ≤ i by omega) with q | q
                    · exact hyes j q
                    · subst q
                      rw [show decide (j = 0) = decide ((j : Int) = 0) from decide_eq_decide.2 (by omega)]
                      exact letter_yes (by omega)
                  refine ⟨_, _, rfl, by omega, i + 1, rfl, rfl, hn, hf, (by omega), (by omega), (by omega), (hy), getV [undef, undef, (y3 2), undef, .int .u8 (bt (s) (i)), undef, undef, undef, undef, undef, undef, undef, undef, undef, undef, undef, undef, undef, undef, undef, undef, undef, .int .i64 (i), .string (s), .int .i64 ((s).data.toList.length), .bool true, .int .i64 (i), .int .i64 (i + 1), .string (s), .int .i64 (i), .int .u8 (bt (s) (i)), .int .u8 (bt (s) (i)), .bool false, .bool false, undef, undef, .bool false, .bool false, .int .u8 (bt (s) (i)), .bool true, .bool true, .int .u8 (bt (s) (i)), .bool false, .bool false, .bool false, .bool false, .int .u8 (bt (s) (i)), .bool true, .bool true, .int .u8 (bt (s) (i)), .bool false, .bool false, .bool false, .bool false, .int .u8 (bt (s) (i)), .bool true, .bool true, .bool false], rfl⟩
                · rw [decide_eq_false c7_24]
                  refine AWp.condT rfl rfl ?_
                  refine AWp.seq (AWp.rowV (l := _) pok ?_)
                  refine sq.c (v := .bool false) rfl rfl rfl rfl ?_
                  refine sq.e ?_
                  refine AWp.ret ?_
                  refine ⟨rfl, [.bool false], rfl, .bool false, rfl, hs, hn, ?_⟩
                  show Value.bool false = .bool (mayNameB s)
                  unfold mayNameB
                  rw [all_range_false (i := i.toNat) (by omega) (by
                    show letterB (bt s ((i.toNat : Nat) : Int)) (decide (i.toNat = 0)) = false
                    rw [show ((i.toNat : Nat) : Int) = i by omega]
                    exact letter_no (by omega) (by omega)), Bool.and_false]
            · rw [decide_eq_false c7_16]
              refine sq.s (wantF (g := 17) (d := 48) rfl rfl rfl) rfl ?_
              refine sq.s (wantF (g := 17) (d := 48) rfl rfl rfl) rfl ?_
              refine sq.c (v := .bool false) (wantT (g := 14) (d := 45) rfl rfl rfl) rfl rfl rfl ?_
              refine sq.c (v := .bool false) rfl rfl rfl rfl ?_
              refine sq.c (v := .bool false) rfl rfl rfl rfl ?_
              refine sq.c (v := .int .u8 (bt (s) (i))) (wantT (g := 22) (d := 53) rfl rfl rfl) rfl rfl rfl ?_
              refine sq.c (v := .bool (decide ((bt (s) (i)) = (95 : Int)))) (wantT (g := 22) (d := 53) rfl rfl rfl) rfl rfl rfl ?_
              refine sq.c (v := .bool (decide ((bt (s) (i)) = (95 : Int)))) rfl rfl rfl rfl ?_
              refine sq.c (v := .bool (!decide ((bt (s) (i)) = (95 : Int)))) rfl rfl rfl rfl ?_
              refine sq.e ?_
              by_cases c7_24 : (bt (s) (i)) = (95 : Int)
              · rw [decide_eq_true c7_24]
                refine AWp.condF rfl rfl ?_
                refine AWp.skip (AWp.rowV (l := _) pok ?_)
                refine sq.c (v := .int .i64 (i)) rfl rfl rfl rfl ?_
                refine sq.c (v := .int .i64 (i + 1)) rfl rfl (okI (wrap_i64 (by omega) (by omega))) rfl ?_
                refine sq.c (v := .int .i64 (i + 1)) rfl rfl rfl rfl ?_
                refine sq.e ?_
                have hy : ∀ j : Nat, (j : Int) < i + 1 → letterB (bt s (j : Nat)) (decide (j = 0)) = true := by
                  intro j hj
                  rcases Int.lt_or_eq_of_le (show (j : Int) ≤ i by omega) with q | q
                  · exact hyes j q
                  · subst q
                    rw [show decide (j = 0) = decide ((j : Int) = 0) from decide_eq_decide.2 (by omega)]
                    exact letter_yes (by omega)
                refine ⟨_, _, rfl, by omega, i + 1, rfl, rfl, hn, hf, (by omega), (by omega), (by omega), (hy), getV [undef, undef, (y3 2), undef, .int .u8 (bt (s) (i)), undef, undef, undef, undef, undef, undef, undef, undef, undef, undef, undef, undef, undef, undef, undef, undef, undef, .int .i64 (i), .string (s), .int .i64 ((s).data.toList.length), .bool true, .int .i64 (i), .int .i64 (i + 1), .string (s), .int .i64 (i), .int .u8 (bt (s) (i)), .int .u8 (bt (s) (i)), .bool false, .bool false, undef, undef, .bool false, .bool false, .int .u8 (bt (s) (i)), .bool true, .bool true, .int .u8 (bt (s) (i)), .bool false, .bool false, .bool false, .bool false, .int .u8 (bt (s) (i)), .bool false, .bool false, undef, undef, .bool false, .bool false, .bool false, .int .u8 (bt (s) (i)), .bool true, .bool true, .bool false], rfl⟩
              · rw [decide_eq_false c7_24]
                refine AWp.condT rfl rfl ?_
                refine AWp.seq (AWp.rowV (l := _) pok ?_)
                refine sq.c (v := .bool false) rfl rfl rfl rfl ?_
                refine sq.e ?_
                refine AWp.ret ?_
                refine ⟨rfl, [.bool false], rfl, .bool false, rfl, hs, hn, ?_⟩
                show Value.bool false = .bool (mayNameB s)
                unfold mayNameB
                rw [all_range_false (i := i.toNat) (by omega) (by
                  show letterB (bt s ((i.toNat : Nat) : Int)) (decide (i.toNat = 0)) = false
                  rw [show ((i.toNat : Nat) : Int) = i by omega]
                  exact letter_no (by omega) (by omega)), Bool.and_false]
        · rw [decide_eq_false c7_8]
          refine sq.s (wantF (g := 9) (d := 40) rfl rfl rfl) rfl ?_
          refine sq.s (wantF (g := 9) (d := 40) rfl rfl rfl) rfl ?_
          refine sq.c (v := .bool false) (wantT (g := 6) (d := 37) rfl rfl rfl) rfl rfl rfl ?_
          refine sq.c (v := .bool false) rfl rfl rfl rfl ?_
          refine sq.c (v := .bool false) rfl rfl rfl rfl ?_
          refine sq.c (v := .int .u8 (bt (s) (i))) (wantT (g := 14) (d := 45) rfl rfl rfl) rfl rfl rfl ?_
          refine sq.c (v := .bool (decide ((48 : Int) ≤ (bt (s) (i))))) (wantT (g := 14) (d := 45) rfl rfl rfl) rfl rfl rfl ?_
          refine sq.c (v := .bool (decide ((48 : Int) ≤ (bt (s) (i))))) (wantT (g := 14) (d := 45) rfl rfl rfl) rfl rfl rfl ?_
          by_cases c7_16 : (48 : Int) ≤ (bt (s) (i))
          · rw [decide_eq_true c7_16]
            refine sq.c (v := .int .u8 (bt (s) (i))) (wantT (g := 17) (d := 48) rfl rfl rfl) rfl rfl rfl ?_
            refine sq.c (v := .bool (decide ((bt (s) (i)) ≤ (57 : Int)))) (wantT (g := 17) (d := 48) rfl rfl rfl) rfl rfl rfl ?_
            refine sq.c (v := .bool (decide ((bt (s) (i)) ≤ (57 : Int)))) (wantT (g := 14) (d := 45) rfl rfl rfl) rfl rfl rfl ?_
            refine sq.c (v := .bool (decide ((bt (s) (i)) ≤ (57 : Int)))) rfl rfl rfl rfl ?_
            refine sq.c (v := .bool (decide ((bt (s) (i)) ≤ (57 : Int)))) rfl rfl rfl rfl ?_
            by_cases c7_19 : (bt (s) (i)) ≤ (57 : Int)
            · rw [decide_eq_true c7_19]
              refine sq.s (wantF (g := 22) (d := 53) rfl rfl rfl) rfl ?_
              refine sq.s (wantF (g := 22) (d := 53) rfl rfl rfl) rfl ?_
              refine sq.c (v := .bool true) rfl rfl rfl rfl ?_
              refine sq.c (v := .bool false) rfl rfl rfl rfl ?_
              refine sq.e ?_
              refine AWp.condF rfl rfl ?_
              refine AWp.skip (AWp.rowV (l := _) pok ?_)
              refine sq.c (v := .int .i64 (i)) rfl rfl rfl rfl ?_
              refine sq.c (v := .int .i64 (i + 1)) rfl rfl (okI (wrap_i64 (by omega) (by omega))) rfl ?_
              refine sq.c (v := .int .i64 (i + 1)) rfl rfl rfl rfl ?_
              refine sq.e ?_
              have hy : ∀ j : Nat, (j : Int) < i + 1 → letterB (bt s (j : Nat)) (decide (j = 0)) = true := by
                intro j hj
                rcases Int.lt_or_eq_of_le (show (j : Int) ≤ i by omega) with q | q
                · exact hyes j q
                · subst q
                  rw [show decide (j = 0) = decide ((j : Int) = 0) from decide_eq_decide.2 (by omega)]
                  have hj0 : ¬ (j : Int) = 0 := by
                    intro e
                    rw [e] at c7_16 c7_19
                    exact hnd ⟨c7_16, c7_19⟩
                  rw [letter_digit (by omega), decide_eq_false hj0]; rfl
              refine ⟨_, _, rfl, by omega, i + 1, rfl, rfl, hn, hf, (by omega), (by omega), (by omega), (hy), getV [undef, undef, (y3 2), undef, .int .u8 (bt (s) (i)), undef, undef, undef, undef, undef, undef, undef, undef, undef, undef, undef, undef, undef, undef, undef, undef, undef, .int .i64 (i), .string (s), .int .i64 ((s).data.toList.length), .bool true, .int .i64 (i), .int .i64 (i + 1), .string (s), .int .i64 (i), .int .u8 (bt (s) (i)), .int .u8 (bt (s) (i)), .bool false, .bool false, undef, undef, .bool false, .bool false, .int .u8 (bt (s) (i)), .bool false, .bool false, undef, undef, .bool false, .bool false, .bool false, .int .u8 (bt (s) (i)), .bool true, .bool true, .int .u8 (bt (s) (i)), .bool true, .bool true, .bool true, .bool true, undef, undef, .bool true, .bool false], rfl⟩
            · rw [decide_eq_false c7_19]
              refine sq.c (v := .int .u8 (bt (s) (i))) (wantT (g := 22) (d := 53) rfl rfl rfl) rfl rfl rfl ?_
              refine sq.c (v := .bool (decide ((bt (s) (i)) = (95 : Int)))) (wantT (g := 22) (d := 53) rfl rfl rfl) rfl rfl rfl ?_
              refine sq.c (v := .bool (decide ((bt (s) (i)) = (95 : Int)))) rfl rfl rfl rfl ?_
              refine sq.c (v := .bool (!decide ((bt (s) (i)) = (95 : Int)))) rfl rfl rfl rfl ?_
              refine sq.e ?_
              by_cases c7_24 : (bt (s) (i)) = (95 : Int)
              · rw [decide_eq_true c7_24]
                refine AWp.condF rfl rfl ?_
                refine AWp.skip (AWp.rowV (l := _) pok ?_)
                refine sq.c (v := .int .i64 (i)) rfl rfl rfl rfl ?_
                refine sq.c (v := .int .i64 (i + 1)) rfl rfl (okI (wrap_i64 (by omega) (by omega))) rfl ?_
                refine sq.c (v := .int .i64 (i + 1)) rfl rfl rfl rfl ?_
                refine sq.e ?_
                have hy : ∀ j : Nat, (j : Int) < i + 1 → letterB (bt s (j : Nat)) (decide (j = 0)) = true := by
                  intro j hj
                  rcases Int.lt_or_eq_of_le (show (j : Int) ≤ i by omega) with q | q
                  · exact hyes j q
                  · subst q
                    rw [show decide (j = 0) = decide ((j : Int) = 0) from decide_eq_decide.2 (by omega)]
                    exact letter_yes (by omega)
                refine ⟨_, _, rfl, by omega, i + 1, rfl, rfl, hn, hf, (by omega), (by omega), (by omega), (hy), getV [undef, undef, (y3 2), undef, .int .u8 (bt (s) (i)), undef, undef, undef, undef, undef, undef, undef, undef, undef, undef, undef, undef, undef, undef, undef, undef, undef, .int .i64 (i), .string (s), .int .i64 ((s).data.toList.length), .bool true, .int .i64 (i), .int .i64 (i + 1), .string (s), .int .i64 (i), .int .u8 (bt (s) (i)), .int .u8 (bt (s) (i)), .bool false, .bool false, undef, undef, .bool false, .bool false, .int .u8 (bt (s) (i)), .bool false, .bool false, undef, undef, .bool false, .bool false, .bool false, .int .u8 (bt (s) (i)), .bool true, .bool true, .int .u8 (bt (s) (i)), .bool false, .bool false, .bool false, .bool false, .int .u8 (bt (s) (i)), .bool true, .bool true, .bool false], rfl⟩
              · rw [decide_eq_false c7_24]
                refine AWp.condT rfl rfl ?_
                refine AWp.seq (AWp.rowV (l := _) pok ?_)
                refine sq.c (v := .bool false) rfl rfl rfl rfl ?_
                refine sq.e ?_
                refine AWp.ret ?_
                refine ⟨rfl, [.bool false], rfl, .bool false, rfl, hs, hn, ?_⟩
                show Value.bool false = .bool (mayNameB s)
                unfold mayNameB
                rw [all_range_false (i := i.toNat) (by omega) (by
                  show letterB (bt s ((i.toNat : Nat) : Int)) (decide (i.toNat = 0)) = false
                  rw [show ((i.toNat : Nat) : Int) = i by omega]
                  exact letter_no (by omega) (by omega)), Bool.and_false]
          · rw [decide_eq_false c7_16]
            refine sq.s (wantF (g := 17) (d := 48) rfl rfl rfl) rfl ?_
            refine sq.s (wantF (g := 17) (d := 48) rfl rfl rfl) rfl ?_
            refine sq.c (v := .bool false) (wantT (g := 14) (d := 45) rfl rfl rfl) rfl rfl rfl ?_
            refine sq.c (v := .bool false) rfl rfl rfl rfl ?_
            refine sq.c (v := .bool false) rfl rfl rfl rfl ?_
            refine sq.c (v := .int .u8 (bt (s) (i))) (wantT (g := 22) (d := 53) rfl rfl rfl) rfl rfl rfl ?_
            refine sq.c (v := .bool (decide ((bt (s) (i)) = (95 : Int)))) (wantT (g := 22) (d := 53) rfl rfl rfl) rfl rfl rfl ?_
            refine sq.c (v := .bool (decide ((bt (s) (i)) = (95 : Int)))) rfl rfl rfl rfl ?_
            refine sq.c (v := .bool (!decide ((bt (s) (i)) = (95 : Int)))) rfl rfl rfl rfl ?_
            refine sq.e ?_
            by_cases c7_24 : (bt (s) (i)) = (95 : Int)
            · rw [decide_eq_true c7_24]
              refine AWp.condF rfl rfl ?_
              refine AWp.skip (AWp.rowV (l := _) pok ?_)
              refine sq.c (v := .int .i64 (i)) rfl rfl rfl rfl ?_
              refine sq.c (v := .int .i64 (i + 1)) rfl rfl (okI (wrap_i64 (by omega) (by omega))) rfl ?_
              refine sq.c (v := .int .i64 (i + 1)) rfl rfl rfl rfl ?_
              refine sq.e ?_
              have hy : ∀ j : Nat, (j : Int) < i + 1 → letterB (bt s (j : Nat)) (decide (j = 0)) = true := by
                intro j hj
                rcases Int.lt_or_eq_of_le (show (j : Int) ≤ i by omega) with q | q
                · exact hyes j q
                · subst q
                  rw [show decide (j = 0) = decide ((j : Int) = 0) from decide_eq_decide.2 (by omega)]
                  exact letter_yes (by omega)
              refine ⟨_, _, rfl, by omega, i + 1, rfl, rfl, hn, hf, (by omega), (by omega), (by omega), (hy), getV [undef, undef, (y3 2), undef, .int .u8 (bt (s) (i)), undef, undef, undef, undef, undef, undef, undef, undef, undef, undef, undef, undef, undef, undef, undef, undef, undef, .int .i64 (i), .string (s), .int .i64 ((s).data.toList.length), .bool true, .int .i64 (i), .int .i64 (i + 1), .string (s), .int .i64 (i), .int .u8 (bt (s) (i)), .int .u8 (bt (s) (i)), .bool false, .bool false, undef, undef, .bool false, .bool false, .int .u8 (bt (s) (i)), .bool false, .bool false, undef, undef, .bool false, .bool false, .bool false, .int .u8 (bt (s) (i)), .bool false, .bool false, undef, undef, .bool false, .bool false, .bool false, .int .u8 (bt (s) (i)), .bool true, .bool true, .bool false], rfl⟩
            · rw [decide_eq_false c7_24]
              refine AWp.condT rfl rfl ?_
              refine AWp.seq (AWp.rowV (l := _) pok ?_)
              refine sq.c (v := .bool false) rfl rfl rfl rfl ?_
              refine sq.e ?_
              refine AWp.ret ?_
              refine ⟨rfl, [.bool false], rfl, .bool false, rfl, hs, hn, ?_⟩
              show Value.bool false = .bool (mayNameB s)
              unfold mayNameB
              rw [all_range_false (i := i.toNat) (by omega) (by
                show letterB (bt s ((i.toNat : Nat) : Int)) (decide (i.toNat = 0)) = false
                rw [show ((i.toNat : Nat) : Int) = i by omega]
                exact letter_no (by omega) (by omega)), Bool.and_false]
    · rw [decide_eq_false c4_3]
      refine AWp.condF rfl rfl ?_
      refine AWp.exit ?_
      refine AWp.seq (AWp.rowV (l := _) pok ?_)
      refine sq.c (v := .bool true) rfl rfl rfl rfl ?_
      refine sq.e ?_
      refine AWp.ret ?_
      refine ⟨rfl, [.bool true], rfl, .bool true, rfl, hs, hn, ?_⟩
      show Value.bool true = .bool (mayNameB s)
      unfold mayNameB
      have hp := bt0_pos c1_1
      rw [all_range (fun j hj => hyes j (by omega)), Bool.and_true]
      exact congrArg Value.bool (decide_eq_true (by omega)).symm
theorem f40_at {h : Heap} {n : Nat} {s : ByteArray} {a : Int} (hlen : s.data.toList.length < 9223372036854775808) (h0 : 0 ≤ a) (h1 : a < ((s.data.toList.length : Nat) : Int)) :
    Tells Tryz.prog 40 [.string (sub s a (s.data.toList.length : Nat))] h n (.tuple #[.int .i64 ((zz (Utf8.decode s a.toNat)).1 : Nat), .int .i64 ((zz (Utf8.decode s a.toNat)).2 : Nat)]) := by
  rw [← rune_at h0 h1]
  exact f40_spec _ (by
    have e : (sub s a (s.data.toList.length : Nat)).data.toList.length ≤ s.data.toList.length := by
      simp only [sub, sliceS, List.length_take, List.length_drop]
      omega
    omega)
theorem f23_spec {h : Heap} {n : Nat} (s : ByteArray) (hlen : s.data.toList.length < 9223372036854775808) :
    Tells Tryz.prog 23 [.string (s)] h n (.bool (mayValueB s)) := by
  refine Makes.tells (Makes.free fun hf => ?_)
  have hs : SubBut h h [] := .refl _ _
  have hn : n ≤ n := Nat.le_refl _
  have hf0 := hf
  refine Makes.of_bodyV (args := [.string (s)]) (vs := [.string (s), undef, undef, undef, undef, undef, undef, undef, undef, undef, undef, undef, undef, undef, undef, undef, undef, undef, undef, undef, undef, undef, undef, undef, undef, undef, undef, undef, undef, undef, undef, undef, undef, undef, undef, undef, undef, undef, undef]) Tryz.func23 rfl rfl ?_
  refine AWp.seq (AWp.rowV (l := _) pok ?_)
  refine sq.c (v := .bool false) rfl rfl rfl rfl ?_
  refine sq.e (AWp.seq (AWp.rowV (l := _) pok ?_))
  refine sq.c (v := .int .i64 (0)) rfl rfl rfl rfl ?_
  refine sq.e (AWp.seq (AWp.seq (AWp.rowV (l := _) pok ?_)))
  refine sq.c (v := .int .i64 (0)) rfl rfl rfl rfl ?_
  refine sq.e (AWp.block ?_)
  refine AWp.loopV (fun d vs h' n2 => ∃ (a k : Int) (ds : List (Nat × Nat)), d = ((s.data.toList.length : Nat) - a + 1).toNat ∧ h = h' ∧ n ≤ n2 ∧ Free h n2 ∧ (0 ≤ a) ∧ (a ≤ (s.data.toList.length : Nat)) ∧ (k = (ds.length : Nat)) ∧ (k ≤ a) ∧ (decs s.data.toList = ds ++ decs (s.data.toList.drop a.toNat)) ∧ (ds.all okD = true) ∧ ∃ y1 : Nat → Value, vs = [.string (s), undef, (y1 2), .int .i64 (k), .int .i64 (a), (y1 5), (y1 6), (y1 7), (y1 8), (y1 9), (y1 10), (y1 11), (y1 12), (y1 13), (y1 14), (y1 15), (y1 16), (y1 17), (y1 18), (y1 19), (y1 20), (y1 21), (y1 22), (y1 23), (y1 24), (y1 25), (y1 26), (y1 27), (y1 28), (y1 29), (y1 30), (y1 31), (y1 32), undef, undef, undef, undef, undef, undef]) (((s.data.toList.length : Nat) - (0 : Int) + 1).toNat) ⟨0, 0, [], rfl, rfl, hn, hf, (by omega), (by omega), (rfl), (by omega), (by simp), (rfl), getV [undef, undef, .bool false, undef, undef, undef, undef, undef, undef, undef, undef, undef, undef, undef, undef, undef, undef, undef, undef, undef, undef, undef, undef, undef, undef, undef, undef, undef, undef, undef, undef, undef, undef], rfl⟩ ?_
  rintro d vs h' n2 ⟨a, k, ds, rfl, rfl, hn, hf, ha0, ha1, hk, hka, hr, hok, y1, rfl⟩
  refine AWp.seq (AWp.seq (AWp.rowV (l := _) pok ?_))
  refine sq.c (v := .int .i64 (a)) rfl rfl rfl rfl ?_
  refine sq.c (v := .string (s)) rfl rfl rfl rfl ?_
  refine sq.c (v := .int .i64 ((s).data.toList.length)) rfl rfl (by kernel_rfl) rfl ?_
  refine sq.c (v := .bool (decide (a < (((s).data.toList.length : Nat) : Int)))) rfl rfl rfl rfl ?_
  refine sq.e ?_
  by_cases c3_3 : a < (((s).data.toList.length : Nat) : Int)
  · rw [decide_eq_true c3_3]
    refine AWp.condT rfl rfl ?_
    refine AWp.skip (AWp.block (AWp.seq (AWp.rowV (l := _) pok ?_)))
    refine sq.c (v := .string (s)) rfl rfl rfl rfl ?_
    refine sq.c (v := .int .i64 (a)) rfl rfl rfl rfl ?_
    refine sq.c (v := .string (sub (s) (a) ((s).data.toList.length))) rfl rfl (slice_str (P := Tryz.prog) (h := h) (t := 9) (s := s) (l := a) (u := (s).data.toList.length) (by kernel_rfl) (.inr ⟨_, rfl⟩) (.inl ⟨rfl, rfl⟩) (by omega) (by omega) (by omega)) rfl ?_
    refine sq.t (v := .tuple #[.int .i64 (((zz (Utf8.decode s a.toNat)).1 : Nat)), .int .i64 (((zz (Utf8.decode s a.toNat)).2 : Nat))]) rfl (CallsF.fn rfl (by kernel_rfl) rfl rfl) (fun hf => f40_at hlen ha0 c3_3) hf rfl ?_
    intro n3 hn2 hf
    have hn := Nat.le_trans hn hn2
    refine sq.c (v := .tuple #[.int .i64 (((zz (Utf8.decode s a.toNat)).1 : Nat)), .int .i64 (((zz (Utf8.decode s a.toNat)).2 : Nat))]) rfl rfl rfl rfl ?_
    refine sq.c (v := .int .i64 (((zz (Utf8.decode s a.toNat)).1 : Nat))) rfl rfl rfl rfl ?_
    refine sq.c (v := .int .i64 (((zz (Utf8.decode s a.toNat)).2 : Nat))) rfl rfl rfl rfl ?_
    refine sq.c (v := .int .i64 (((zz (Utf8.decode s a.toNat)).1 : Nat))) rfl rfl rfl rfl ?_
    refine sq.c (v := .int .i64 (((zz (Utf8.decode s a.toNat)).2 : Nat))) rfl rfl rfl rfl ?_
    refine sq.e (AWp.seq (AWp.seq (AWp.rowV (l := _) pok ?_)))
    refine sq.c (v := .int .i64 (((zz (Utf8.decode s a.toNat)).2 : Nat))) rfl rfl rfl rfl ?_
    refine sq.c (v := .bool (decide ((((zz (Utf8.decode s a.toNat)).2 : Nat)) = (0 : Int)))) rfl rfl rfl rfl ?_
    refine sq.c (v := .bool (decide ((((zz (Utf8.decode s a.toNat)).2 : Nat)) = (0 : Int)))) rfl rfl rfl rfl ?_
    by_cases c5_1 : (((zz (Utf8.decode s a.toNat)).2 : Nat)) = (0 : Int)
    · rw [decide_eq_true c5_1]
      refine sq.s (wantF (g := 2) (d := 20) rfl rfl rfl) rfl ?_
      refine sq.s (wantF (g := 2) (d := 20) rfl rfl rfl) rfl ?_
      refine sq.c (v := .bool true) rfl rfl rfl rfl ?_
      refine sq.c (v := .bool true) rfl rfl rfl rfl ?_
      refine sq.s (wantF (g := 6) (d := 24) rfl rfl rfl) rfl ?_
      refine sq.s (wantF (g := 6) (d := 24) rfl rfl rfl) rfl ?_
      refine sq.c (v := .bool true) rfl rfl rfl rfl ?_
      refine sq.e ?_
      refine AWp.condT rfl rfl ?_
      refine AWp.seq (AWp.rowV (l := _) pok ?_)
      refine sq.c (v := .bool false) rfl rfl rfl rfl ?_
      refine sq.e ?_
      refine AWp.ret ?_
      refine ⟨rfl, [.bool false], rfl, .bool false, rfl, hs, hn, ?_⟩
      show Value.bool false = .bool (mayValueL s.data.toList)
      obtain ⟨q1, q2, q3⟩ := decode_step s a.toNat (by omega)
      have hd : okD (Utf8.decode s a.toNat) = false := by
        have e : zz (Utf8.decode s a.toNat) ≠ Utf8.decode s a.toNat := by
          intro e; rw [e] at c5_1; omega
        have e2 : Utf8.decode s a.toNat = (65533, 1) := by
          by_cases e3 : Utf8.decode s a.toNat = (65533, 1)
          · exact e3
          · exfalso; apply e; unfold zz; rw [if_neg e3]
        rw [e2]; rfl
      rw [mv_badD (hr.trans (by rw [q1])) hd]
    · rw [decide_eq_false c5_1]
      refine sq.c (v := .int .i64 (((zz (Utf8.decode s a.toNat)).1 : Nat))) (wantT (g := 2) (d := 20) rfl rfl rfl) rfl rfl rfl ?_
      refine sq.c (v := .bool (decide ((((zz (Utf8.decode s a.toNat)).1 : Nat)) < (32 : Int)))) (wantT (g := 2) (d := 20) rfl rfl rfl) rfl rfl rfl ?_
      refine sq.c (v := .bool (decide ((((zz (Utf8.decode s a.toNat)).1 : Nat)) < (32 : Int)))) rfl rfl rfl rfl ?_
      refine sq.c (v := .bool (decide ((((zz (Utf8.decode s a.toNat)).1 : Nat)) < (32 : Int)))) rfl rfl rfl rfl ?_
      by_cases c5_4 : (((zz (Utf8.decode s a.toNat)).1 : Nat)) < (32 : Int)
      · rw [decide_eq_true c5_4]
        refine sq.s (wantF (g := 6) (d := 24) rfl rfl rfl) rfl ?_
        refine sq.s (wantF (g := 6) (d := 24) rfl rfl rfl) rfl ?_
        refine sq.c (v := .bool true) rfl rfl rfl rfl ?_
        refine sq.e ?_
        refine AWp.condT rfl rfl ?_
        refine AWp.seq (AWp.rowV (l := _) pok ?_)
        refine sq.c (v := .bool false) rfl rfl rfl rfl ?_
        refine sq.e ?_
        refine AWp.ret ?_
        refine ⟨rfl, [.bool false], rfl, .bool false, rfl, hs, hn, ?_⟩
        show Value.bool false = .bool (mayValueL s.data.toList)
        obtain ⟨q1, q2, q3⟩ := decode_step s a.toNat (by omega)
        obtain ⟨z1, z2⟩ := zz_of c5_1
        rw [z1] at c5_4
        rw [mv_badD (hr.trans (by rw [q1])) (by unfold okD; simp; omega)]
      · rw [decide_eq_false c5_4]
        refine sq.c (v := .int .i64 (((zz (Utf8.decode s a.toNat)).1 : Nat))) (wantT (g := 6) (d := 24) rfl rfl rfl) rfl rfl rfl ?_
        refine sq.c (v := .bool (decide ((((zz (Utf8.decode s a.toNat)).1 : Nat)) = (127 : Int)))) (wantT (g := 6) (d := 24) rfl rfl rfl) rfl rfl rfl ?_
        refine sq.c (v := .bool (decide ((((zz (Utf8.decode s a.toNat)).1 : Nat)) = (127 : Int)))) rfl rfl rfl rfl ?_
        refine sq.e ?_
        by_cases c5_8 : (((zz (Utf8.decode s a.toNat)).1 : Nat)) = (127 : Int)
        · rw [decide_eq_true c5_8]
          refine AWp.condT rfl rfl ?_
          refine AWp.seq (AWp.rowV (l := _) pok ?_)
          refine sq.c (v := .bool false) rfl rfl rfl rfl ?_
          refine sq.e ?_
          refine AWp.ret ?_
          refine ⟨rfl, [.bool false], rfl, .bool false, rfl, hs, hn, ?_⟩
          show Value.bool false = .bool (mayValueL s.data.toList)
          obtain ⟨q1, q2, q3⟩ := decode_step s a.toNat (by omega)
          obtain ⟨z1, z2⟩ := zz_of c5_1
          rw [z1] at c5_8
          rw [mv_badD (hr.trans (by rw [q1])) (by unfold okD; simp; omega)]
        · rw [decide_eq_false c5_8]
          refine AWp.condF rfl rfl ?_
          refine AWp.skip (AWp.seq (AWp.rowV (l := _) pok ?_))
          refine sq.c (v := .int .i64 (a)) rfl rfl rfl rfl ?_
          refine sq.c (v := .int .i64 (((zz (Utf8.decode s a.toNat)).2 : Nat))) rfl rfl rfl rfl ?_
          refine sq.c (v := .int .i64 (a + (((zz (Utf8.decode s a.toNat)).2 : Nat)))) rfl rfl (okI (wrap_i64 (by have := (decode_step s a.toNat (by omega)).2.1; obtain ⟨z1, z2⟩ := zz_of c5_1; rw [z1]; omega) (by have := (decode_step s a.toNat (by omega)).2.1; obtain ⟨z1, z2⟩ := zz_of c5_1; rw [z1]; omega))) rfl ?_
          refine sq.c (v := .int .i64 (a + (((zz (Utf8.decode s a.toNat)).2 : Nat)))) rfl rfl rfl rfl ?_
          refine sq.e (AWp.rowV (l := _) pok ?_)
          refine sq.c (v := .int .i64 (k)) rfl rfl rfl rfl ?_
          refine sq.c (v := .int .i64 (k + 1)) rfl rfl (okI (wrap_i64 (by omega) (by omega))) rfl ?_
          refine sq.c (v := .int .i64 (k + 1)) rfl rfl rfl rfl ?_
          refine sq.e ?_
          obtain ⟨q1, q2, q3⟩ := decode_step s a.toNat (by omega)
          obtain ⟨z1, z2⟩ := zz_of c5_1
          have e1 : (a + ((zz (Utf8.decode s a.toNat)).2 : Nat)).toNat = a.toNat + (Utf8.decode s a.toNat).2 := by rw [z1]; omega
          have hb : okD (Utf8.decode s a.toNat) = true := by
            rw [z1] at c5_4 c5_8
            unfold okD
            simp only [Bool.and_eq_true, bne_iff_ne, ne_eq, decide_eq_true_eq]
            exact ⟨⟨z2, by omega⟩, by omega⟩
          refine ⟨_, _, rfl, by rw [z1]; omega, _, _, ds ++ [Utf8.decode s a.toNat], rfl, rfl, hn, hf, (by rw [z1]; omega), (by rw [z1]; omega), (by rw [hk]; simp), (by rw [z1]; omega), (by rw [hr, q1, e1]; simp), (by rw [List.all_append, hok]; simp [hb]), getV [undef, undef, (y1 2), undef, undef, .int .i64 (((zz (Utf8.decode s a.toNat)).1 : Nat)), .int .i64 (((zz (Utf8.decode s a.toNat)).2 : Nat)), .int .i64 (a), .string (s), .int .i64 ((s).data.toList.length), .bool true, .tuple #[.int .i64 (((zz (Utf8.decode s a.toNat)).1 : Nat)), .int .i64 (((zz (Utf8.decode s a.toNat)).2 : Nat))], .string (s), .int .i64 (a), .string (sub (s) (a) ((s).data.toList.length)), .tuple #[.int .i64 (((zz (Utf8.decode s a.toNat)).1 : Nat)), .int .i64 (((zz (Utf8.decode s a.toNat)).2 : Nat))], .int .i64 (((zz (Utf8.decode s a.toNat)).1 : Nat)), .int .i64 (((zz (Utf8.decode s a.toNat)).2 : Nat)), .int .i64 (((zz (Utf8.decode s a.toNat)).2 : Nat)), .bool false, .bool false, .int .i64 (((zz (Utf8.decode s a.toNat)).1 : Nat)), .bool false, .bool false, .bool false, .int .i64 (((zz (Utf8.decode s a.toNat)).1 : Nat)), .bool false, .bool false, .int .i64 (a), .int .i64 (((zz (Utf8.decode s a.toNat)).2 : Nat)), .int .i64 (a + (((zz (Utf8.decode s a.toNat)).2 : Nat))), .int .i64 (k), .int .i64 (k + 1)], rfl⟩
  · rw [decide_eq_false c3_3]
    refine AWp.condF rfl rfl ?_
    refine AWp.exit ?_
    refine AWp.seq (AWp.rowV (l := _) pok ?_)
    refine sq.c (v := .int .i64 (k)) rfl rfl rfl rfl ?_
    refine sq.c (v := .bool (decide ((1 : Int) ≤ k))) rfl rfl rfl rfl ?_
    refine sq.c (v := .bool (decide ((1 : Int) ≤ k))) rfl rfl rfl rfl ?_
    by_cases c9_1 : (1 : Int) ≤ k
    · rw [decide_eq_true c9_1]
      refine sq.c (v := .int .i64 (k)) (wantT (g := 2) (d := 35) rfl rfl rfl) rfl rfl rfl ?_
      refine sq.c (v := .bool (decide (k ≤ (64 : Int)))) (wantT (g := 2) (d := 35) rfl rfl rfl) rfl rfl rfl ?_
      refine sq.c (v := .bool (decide (k ≤ (64 : Int)))) rfl rfl rfl rfl ?_
      refine sq.c (v := .bool (decide (k ≤ (64 : Int)))) rfl rfl rfl rfl ?_
      refine sq.e ?_
      refine AWp.ret ?_
      refine ⟨rfl, [.bool (decide (k ≤ (64 : Int)))], rfl, .bool (decide (k ≤ (64 : Int))), rfl, hs, hn, ?_⟩
      show Value.bool (decide (k ≤ (64 : Int))) = .bool (mayValueL s.data.toList)
      have hd : s.data.toList.drop a.toNat = [] := List.drop_eq_nil_of_le (by omega)
      rw [hd, decs_nil, List.append_nil] at hr
      rw [mv_endD hr hok, decide_eq_true (show 1 ≤ ds.length by omega), Bool.true_and]; exact congrArg Value.bool (decide_eq_decide.2 (by omega))
    · rw [decide_eq_false c9_1]
      refine sq.s (wantF (g := 2) (d := 35) rfl rfl rfl) rfl ?_
      refine sq.s (wantF (g := 2) (d := 35) rfl rfl rfl) rfl ?_
      refine sq.c (v := .bool false) rfl rfl rfl rfl ?_
      refine sq.c (v := .bool false) rfl rfl rfl rfl ?_
      refine sq.e ?_
      refine AWp.ret ?_
      refine ⟨rfl, [.bool false], rfl, .bool false, rfl, hs, hn, ?_⟩
      show Value.bool false = .bool (mayValueL s.data.toList)
      have hd : s.data.toList.drop a.toNat = [] := List.drop_eq_nil_of_le (by omega)
      rw [hd, decs_nil, List.append_nil] at hr
      rw [mv_endD hr hok, decide_eq_false (show ¬ 1 ≤ ds.length by omega)]; rfl
end Go.Proofs.YtkpjfibpaojelaaGreatDoor
