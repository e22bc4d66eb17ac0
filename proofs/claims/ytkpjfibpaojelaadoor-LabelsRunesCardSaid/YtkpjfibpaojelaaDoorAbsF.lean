/- AbsF: the abstract semantics over the model, parts 34 to 35. -/
import Derived.Test.YtkpjfibpaojelaaDoorAbsE

/- Regions whose order is drawn, in which blocks turn that are not read: what is kept, told block by block. -/
namespace Go.Abs
open Go

/-- These blocks stay. -/
def KeepK (K : List Nat) (h h' : Heap) : Prop := ∀ b ∈ K, ∀ o, h.get b = some o → h'.get b = some o
theorem KeepK.refl (K : List Nat) (h : Heap) : KeepK K h h := fun _ _ _ e => e
theorem KeepK.trans {K : List Nat} {h h1 h2 : Heap} (a : KeepK K h h1) (b : KeepK K h1 h2) : KeepK K h h2 := fun c hc o e => b c hc o (a c hc o e)
theorem KeepK.of {K S : List Nat} {h h1 : Heap} (hK : ∀ b ∈ K, b ∉ S) (s : SubBut h h1 S) : KeepK K h h1 := fun c hc o e => s c o (hK c hc) e
theorem keepN {S : List Nat} : ∀ b ∈ ([] : List Nat), b ∉ S := fun _ h => by cases h
theorem keepC {S K : List Nat} {b : Nat} (h : b ∉ S) (k : ∀ c ∈ K, c ∉ S) : ∀ c ∈ b :: K, c ∉ S := fun c hc => (List.mem_cons.1 hc).elim (fun e => e ▸ h) (k c)

theorem rowE_keep {h h' : Heap} {b o k : Nat} {xs : List Value} (q : ∀ o, h.get b = some o → h'.get b = some o) (e : rowE h b o k = some xs) : rowE h' b o k = some xs := by
  unfold rowE at *
  split at e
  · rename_i hk; rw [if_pos hk]; exact e
  · rename_i hk
    rw [if_neg hk]
    cases hb : h.get b with
    | none => rw [hb] at e; cases e
    | some x => rw [hb] at e; rw [q x hb]; exact e
/-- The rest of a region in any row; what was read lies in blocks that stay. -/
structure DK (P : Program) (ops : Array Oper) (Q : APost) (K : List Nat) (plan : List Nat) (vs : List Value) (h : Heap) (n : Nat) : Prop where
  run : ∀ inv : Inv, (∀ x ∈ inv, ∀ h', KeepK K h h' → x.2 h') → drawW P (acall P) ops Q plan inv (frameV vs) h n

section
variable {P : Program} {Q : APost} {vs vs' : List Value} {h : Heap} {n : Nat} {ops : Array Oper} {o : Oper} {d : Nat} {K S S' : List Nat} {i : Nat} {plan : List Nat} {R : Value → Heap → Nat → Prop} {v : Value} {f : FuncId} {xs : List Value} {l : List Oper}
theorem AWp.anyK (ok : POk P) {id : Nat} (plan : List Nat) (hsel : Region.noSelect ops = true) (hp : planOk P ops plan (Array.replicate ops.size false) = true) (hlen : plan.length = ops.size) (hpan : PanExt [] Q)
    (q : DK P ops Q [] plan vs h n) : AWp P (.region id ops true) Q (frameV vs) h n :=
  AWp.draw_region ok plan hsel hp hlen (S := []) (avoids_nil ops) hpan (q.run [] (by simp))
theorem dk.e (q : Q .normal (frameV vs) h n) : DK P ops Q K [] vs h n := ⟨fun _ _ => q⟩
theorem dk.c {v : Value} (ho : l[i]? = some o) (hk : kindOf P o = 1) (hw : wantedA l.toArray o (frameV vs) = true) (hok : okOper P.globals.size o = true) (hv : calmE P o (evalV vs) h = some v) (hd : o.dst = some d) [z : SetL vs d v vs']
    (k : DK P l.toArray Q K plan vs' h n) : DK P l.toArray Q K (i :: plan) vs h n := by
  refine ⟨fun inv hinv => ?_⟩
  have hz : vs' = setV vs o.dst v := by rw [hd]; exact z.eq.symm
  rw [hz] at k
  simp only [drawW, at_arr ho, hk, if_neg (show ¬ (1 : Nat) = 0 by decide), hw, if_true, frameV_eval, frameV_put]
  refine ⟨hok, ?_⟩
  rw [hv]
  exact k.run inv hinv
theorem dk.gB {v : Value} (b : Nat) (ho : l[i]? = some o) (hk : (kindOf P o != 0) = true) (hw : wantedA l.toArray o (frameV vs) = true) (hok : okOper P.globals.size o = true) (hv : ∀ h', (∀ o, h.get b = some o → h'.get b = some o) → calmE P o (evalV vs) h' = some v) (hd : o.dst = some d) [z : SetL vs d v vs']
    (k : DK P l.toArray Q (b :: K) plan vs' h n) : DK P l.toArray Q K (i :: plan) vs h n := by
  refine ⟨fun inv hinv => ?_⟩
  have hk' : kindOf P o ≠ 0 := by simpa using hk
  have hz : vs' = setV vs o.dst v := by rw [hd]; exact z.eq.symm
  rw [hz] at k
  simp only [drawW, at_arr ho, if_neg hk', hw, if_true, frameV_eval, frameV_put]
  refine ⟨hok, ?_⟩
  rw [hv h fun _ e => e]
  simp only
  have hinv' : ∀ x ∈ inv, ∀ h', KeepK (b :: K) h h' → x.2 h' := fun x hx h' hs => hinv x hx h' fun c hc => hs c (List.mem_cons_of_mem _ hc)
  split
  · exact k.run inv hinv'
  · refine k.run _ ?_
    intro x hx h' hs
    rcases List.mem_cons.1 hx with rfl | hx
    · exact hv h' (hs b (List.mem_cons_self ..))
    · exact hinv' x hx h' hs
theorem dk.skip' (hd : setV vs o.dst undef = vs') (ho : l[i]? = some o) (hw : wantedA l.toArray o (frameV vs) = false) (k : DK P l.toArray Q K plan vs' h n) : DK P l.toArray Q K (i :: plan) vs h n := by
  refine ⟨fun inv hinv => ?_⟩
  subst hd
  simp only [drawW, at_arr ho]
  split
  · simp only [opW, hw, Bool.false_eq_true, if_false, frameV_put]
    refine ⟨fun x hx => hinv x (List.mem_filter.1 hx).1 h (.refl K h), k.run _ fun x hx h' hs => hinv x (List.mem_filter.1 hx).1 h' hs⟩
  · simp only [hw, Bool.false_eq_true, if_false, frameV_put]
    exact k.run inv hinv
theorem dk.s (ho : l[i]? = some o) (hw : wantedA l.toArray o (frameV vs) = false) (hd : o.dst = some d) [z : SetL vs d undef vs'] (k : DK P l.toArray Q K plan vs' h n) : DK P l.toArray Q K (i :: plan) vs h n :=
  dk.skip' (by rw [hd]; exact z.eq) ho hw k
theorem dk.s0 (ho : l[i]? = some o) (hw : wantedA l.toArray o (frameV vs) = false) (hd : o.dst = none) (k : DK P l.toArray Q K plan vs h n) : DK P l.toArray Q K (i :: plan) vs h n :=
  dk.skip' (by rw [hd]; rfl) ho hw k
theorem dk.op (ho : l[i]? = some o) (hk : kindOf P o = 0) (hw : wantedA l.toArray o (frameV vs) = true) (hok : okOper P.globals.size o = true) (q : Does P o (evalV vs) h n S' R) (hK : ∀ b ∈ K, b ∉ S')
    (k : ∀ v h2 n2, R v h2 n2 → SubBut h h2 S' → n ≤ n2 → Free h2 n2 → DK P l.toArray Q K plan (setV vs o.dst v) h2 n2) : DK P l.toArray Q K (i :: plan) vs h n := by
  obtain ⟨hc, x, v, h', n', hv, hx, hs, hn, hf, hr⟩ := q
  have k := k v h' n' hr hs hn hf
  refine ⟨fun inv hinv => ?_⟩
  simp only [drawW, at_arr ho, hk, if_true, opW, hw, frameV_eval]
  refine ⟨hok, ?_⟩
  rw [hc, hv]
  have hs' := KeepK.of hK hs
  have k' := k.run (inv.filter fun x => !dep l.toArray i x.1) fun x hx h2 hs2 => hinv x (List.mem_filter.1 hx).1 h2 (hs'.trans hs2)
  have hq : ∀ x ∈ inv.filter (fun x => !dep l.toArray i x.1), x.2 h' := fun x hx => hinv x (List.mem_filter.1 hx).1 h' hs'
  rcases hx with rfl | ⟨rfl, rfl⟩
  · simp only [resW, frameV_put]; exact ⟨hq, k'⟩
  · simp only [resW, frameV_put]; exact ⟨hq, k'⟩
theorem dk.k (ho : l[i]? = some o) (hk : kindOf P o = 0) (hw : wantedA l.toArray o (frameV vs) = true) (hc : CallsF P o (evalV vs) f xs) (c : Makes P f xs h n S' R) (hK : ∀ b ∈ K, b ∉ S')
    (k : ∀ v h2 n2, R v h2 n2 → SubBut h h2 S' → n ≤ n2 → Free h2 n2 → DK P l.toArray Q K plan (setV vs o.dst v) h2 n2) : DK P l.toArray Q K (i :: plan) vs h n := by
  obtain ⟨hok, hc1, hc2⟩ := hc
  refine ⟨fun inv hinv => ?_⟩
  simp only [drawW, at_arr ho, hk, if_true, opW, hw, frameV_eval]
  refine ⟨hok, ?_⟩
  rw [hc1, hc2]
  simp only [resW]
  refine ACall.mono c ?_
  rintro r h1 n1 _ hfr ⟨v, rfl, hs, hn, hr⟩
  refine ⟨h1, Heap.sub_refl _, ?_⟩
  have hs' := KeepK.of hK hs
  simp only [frameV_put]
  exact ⟨fun x hx => hinv x (List.mem_filter.1 hx).1 h1 hs', (k v h1 n1 hr hs hn hfr).run _ fun x hx h2 hs2 => hinv x (List.mem_filter.1 hx).1 h2 (hs'.trans hs2)⟩
theorem dk.t {v : Value} (ho : l[i]? = some o) (hk : kindOf P o = 0) (hw : wantedA l.toArray o (frameV vs) = true) (hc : CallsF P o (evalV vs) f xs) (c : Free h n → Tells P f xs h n v) (hf : Free h n) (hd : o.dst = some d) [z : SetL vs d v vs']
    (k : ∀ n2, n ≤ n2 → Free h n2 → DK P l.toArray Q K plan vs' h n2) : DK P l.toArray Q K (i :: plan) vs h n := by
  refine dk.k ho hk hw hc (Tells.makes (S := []) (c hf)) (fun b _ hm => by simp at hm) ?_
  rintro u h2 n2 ⟨rfl, rfl⟩ _ hn hf2
  rw [hd, show setV vs (some d) u = vs' from z.eq]
  exact k n2 hn hf2
theorem dk.w [z : SetL vs d v vs'] (k : DK P ops Q K plan vs' h n) : DK P ops Q K plan (setV vs (some d) v) h n := by
  rw [show setV vs (some d) v = vs' from z.eq]; exact k
theorem dk.w0 (k : DK P ops Q K plan vs h n) : DK P ops Q K plan (setV vs none v) h n := k
end

theorem strOf_row {P : Program} {a b e : TypeId} {h : Heap} {v : Value} {bs : List UInt8} (hc : convE P a b (.slice none 0 0) = some (.string ⟨#[]⟩)) (ha : P.underlying a = some (.slice e)) (hb : P.underlying b = some .string) (he : P.underlying e = some (.int .u8)) (q : IsRow encByte h v bs) :
    (match convE P a b v with | some v => some v | none => strOfE P a b v h) = some (.string ⟨bs.toArray⟩) := by
  have h1 : ∀ x l c, convE P a b (.slice (some x) l c) = none := by
    intro x l c
    unfold convE
    rw [ha, hb]
    rfl
  have h2 := q.str ha hb he
  obtain ⟨x, c, rfl⟩ := q.slice
  cases x with
  | some x => rw [h1]; exact h2
  | none =>
    rcases q with ⟨rfl, e | ⟨b', o, cap, e⟩⟩ | ⟨b', o, cap, cs, own, ci, e, h1, h2, h3, h4⟩
    · cases e; rw [show (convE P a b (.slice none ([] : List UInt8).length 0)) = _ from hc]
    · cases e
    · cases e

/-- The first ones of a row. -/
theorem IsRow.take {α : Type} {E : Enc α} {P : Program} {t e : TypeId} {h : Heap} {a : Option Addr} {cp : Nat} {kd : IntKind} {xs : List α} {k : Nat} (hu : P.underlying t = some (.slice e)) (hi : (P.info? e).map (·.size) = some E.k)
    (q : IsRow E h (.slice a xs.length cp) xs) (hc : xs.length ≤ cp ∧ cp < U) (hk : k ≤ xs.length) :
    sliceE P t (.slice a xs.length cp) none (some (.int kd (k : Nat))) none h = some (.slice a (xs.take k).length cp) ∧ IsRow E h (.slice a (xs.take k).length cp) (xs.take k) := by
  have hl : (xs.take k).length = k := by rw [List.length_take]; omega
  have hinf : ∃ inf, P.info? e = some inf := by
    cases h40 : P.info? e with
    | none => rw [h40] at hi; cases hi
    | some inf => exact ⟨inf, rfl⟩
  obtain ⟨inf, h40⟩ := hinf
  have hb2 : boundE none k 0 = some 0 := rfl
  have hnil : a = none → xs = [] ∧ cp = 0 := by
    intro e
    subst e
    rcases q with ⟨rfl, e | ⟨b', o, cap, e⟩⟩ | ⟨b', o, cap, cs, own, ci, e, _⟩
    · cases e; exact ⟨rfl, rfl⟩
    · cases e
    · cases e
  have hprop : ∀ x, a = some x → x.spot = none := by
    intro x ex
    subst ex
    rcases q with ⟨rfl, e | ⟨b', o, cap, e⟩⟩ | ⟨b', o, cap, cs, own, ci, e, _⟩
    · cases e
    · cases e; rfl
    · cases e; rfl
  refine ⟨?_, ?_⟩
  · rw [hl]
    cases a with
    | none =>
      obtain ⟨rfl, rfl⟩ := hnil rfl
      obtain rfl : k = 0 := by simpa using hk
      unfold sliceE
      rw [hu]
      simp only [List.length_nil, h40, boundsE, boundE]
      rfl
    | some x =>
      obtain ⟨b, o, pth⟩ := x
      obtain rfl : pth = none := hprop _ rfl
      unfold sliceE
      rw [hu]
      simp only [h40]
      have hbl : boundE (some (.int kd (k : Nat))) cp xs.length = some k := by simp only [boundE]; rw [if_pos (by omega)]; simp
      rw [if_neg (by omega), if_neg (by omega), if_pos hc]
      simp only [boundsE, hbl, hb2, Option.getD_none]
      simp
  · rcases q with ⟨rfl, e | ⟨b', o, cap, e⟩⟩ | ⟨b', o, cap, cs, own, ci, e, h1, h2, h3, h4⟩
    · cases e; rw [List.take_nil]; exact .nil
    · cases e; rw [List.take_nil]; exact .empty
    · cases e
      have hm : E.k * k ≤ E.k * xs.length := Nat.mul_le_mul_left _ hk
      refine .inr ⟨b', o, cp, cs, own, ci, rfl, by omega, h2, ?_, ?_⟩
      · rw [hl, ← E.row_take, ← h3, List.take_take, Nat.min_eq_left hm]
      · rw [hl]; omega
end Go.Abs

/- Regions whose order is drawn, in which two acting operations may be ready at once: plans that fork. -/
namespace Go.Abs
open Go

inductive PlanT where
  | e
  | s (i : Nat) (r : PlanT)
  | f (i j : Nat) (p q : PlanT)
def PlanT.len : PlanT → Nat
  | .e => 0
  | .s _ r => r.len + 1
  | .f _ _ p _ => p.len + 1

def drawT (P : Program) (C : CallW) (ops : Array Oper) (Q : APost) : PlanT → Inv → ANextK
  | .e, _, fr, h, n => Q .normal fr h n
  | .s i rest, inv, fr, h, n => match ops[i]? with
    | none => False
    | some o =>
      if kindOf P o = 0 then
        opW P C ops o fr h n (fun fr' h' n' => (∀ x ∈ inv.filter (fun x => !dep ops i x.1), x.2 h') ∧ drawT P C ops Q rest (inv.filter fun x => !dep ops i x.1) fr' h' n') (fun v h' n' => Q (.pan v) fr h' n')
      else if wantedA ops o fr then
        okOper P.globals.size o = true ∧ match calmE P o fr.eval h with
          | some v => drawT P C ops Q rest (if kindOf P o = 1 then inv else (i, fun h' => calmE P o fr.eval h' = some v) :: inv) (fr.put o.dst v) h n
          | none => False
      else drawT P C ops Q rest inv (fr.put o.dst undef) h n
  | .f i j p q, inv, fr, h, n =>
    (match ops[i]? with
      | none => False
      | some o => opW P C ops o fr h n (fun fr' h' n' => (∀ x ∈ inv.filter (fun x => !dep ops i x.1), x.2 h') ∧ drawT P C ops Q p (inv.filter fun x => !dep ops i x.1) fr' h' n') (fun v h' n' => Q (.pan v) fr h' n')) ∧
    (match ops[j]? with
      | none => False
      | some o => opW P C ops o fr h n (fun fr' h' n' => (∀ x ∈ inv.filter (fun x => !dep ops j x.1), x.2 h') ∧ drawT P C ops Q q (inv.filter fun x => !dep ops j x.1) fr' h' n') (fun v h' n' => Q (.pan v) fr h' n'))

def planOkT (P : Program) (ops : Array Oper) : PlanT → Array Bool → Bool
  | .e, listed => (Region.ready .any ops listed).isEmpty
  | .s i rest, listed => (match ops[i]? with
    | none => false
    | some o => if kindOf P o = 0 then Region.ready .any ops listed == [i] else (Region.ready .any ops listed).contains i && Region.free .any ops listed i) && planOkT P ops rest (listed.setIfInBounds i true)
  | .f i j p q, listed => (match ops[i]?, ops[j]? with
    | some o, some o' => kindOf P o == 0 && kindOf P o' == 0
    | _, _ => false) && (Region.ready .any ops listed == [i, j] && (p.len == q.len && (planOkT P ops p (listed.setIfInBounds i true) && planOkT P ops q (listed.setIfInBounds j true))))

section
variable {P : Program} {ops : Array Oper} {Q : APost}
theorem actStep (ok : POk P) {inv : Inv} {i f : Nat} {o : Oper} {listed : Array Bool} {fr : AAct} {h : Heap} {n : Nat} {D : ANextK} (ho : ops[i]? = some o) (hk : kindOf P o = 0) (hsz : listed.size = ops.size)
    (cont : ∀ fr' h' n', (∀ x ∈ inv.filter (fun x => !dep ops i x.1), x.2 h') → D fr' h' n' → AAny P (actOf P ops) ops (EQ Q) (inv.filter fun x => !dep ops i x.1) f (listed.setIfInBounds i true) fr' h' n')
    (q : opW P (acall P) ops o fr h n (fun fr' h' n' => (∀ x ∈ inv.filter (fun x => !dep ops i x.1), x.2 h') ∧ D fr' h' n') (fun v h' n' => Q (.pan v) fr h' n')) :
    AOp P ops (EQ Q) i (fun fr' h' n' => inv.holds (actOf P ops) ops (listed.setIfInBounds i true) h' ∧ AAny P (actOf P ops) ops (EQ Q) inv f (listed.setIfInBounds i true) fr' h' n') fr h n := by
  have hact : actOf P ops i = true := by simp [actOf, ho, hk]
  have hdrop : Dropped P ops (listed.setIfInBounds i true) inv (inv.filter fun x => !dep ops i x.1) := by
    intro x hx
    by_cases hd : dep ops i x.1 = true
    · refine .inr ⟨i, hact, ?_, hd⟩
      have hlt : i < listed.size := by rw [hsz]; exact (Array.getElem?_eq_some_iff.1 ho).1
      rw [Array.getD_eq_getD_getElem?, Array.getElem?_setIfInBounds_self_of_lt hlt]; rfl
    · exact .inl (List.mem_filter.2 ⟨hx, by simpa using hd⟩)
  have hop : AOp P ops (EQ Q) i (fun fr' h' n' => (∀ x ∈ inv.filter (fun x => !dep ops i x.1), x.2 h') ∧ D fr' h' n') fr h n := by
    refine AOp.of_opW ok ho ?_
    exact opW_pan (fun v h n q => ⟨fr, .refl fr, q⟩) q
  refine hop.mono fun fr' h' n' _ _ k => ⟨?_, ?_⟩
  · intro x hx hall
    rcases hdrop x hx with h | ⟨j', h1, h2, h3⟩
    · exact k.1 x h
    · rw [hall j' h1 h2] at h3; cases h3
  · exact AAny.drop hdrop (cont fr' h' n' k.1 k.2)

theorem AAny.of_drawT (ok : POk P) (hsel : Region.noSelect ops = true) {S : List Nat} (hS : avoids S ops = true) (hpan : PanExt S Q) : ∀ (plan : PlanT) (inv : Inv) (listed : Array Bool) (fr : AAct) (h : Heap) (n : Nat),
    listed.size = ops.size → Closed ops listed → planOkT P ops plan listed = true → (∀ x ∈ inv, x.2 h) → drawT P (acall P) ops Q plan inv fr h n → AAny P (actOf P ops) ops (EQ Q) inv plan.len listed fr h n := by
  intro plan
  induction plan with
  | e =>
    intro inv listed fr h n _ _ hp _ q
    refine ⟨?_, fr, .refl fr, q⟩
    simpa [planOkT] using hp
  | f i j p q ihp ihq =>
    intro inv listed fr h n hsz hcl hp hinv d
    simp only [planOkT, Bool.and_eq_true] at hp
    obtain ⟨hk, hr, hl, hp1, hp2⟩ := hp
    have hready : Region.ready .any ops listed = [i, j] := by simpa using hr
    have hlen : p.len = q.len := by simpa using hl
    have hi : i ∈ Region.ready .any ops listed := by rw [hready]; simp
    have hj : j ∈ Region.ready .any ops listed := by rw [hready]; simp
    simp only [drawT] at d
    cases ho : ops[i]? with
    | none => rw [ho] at hk; simp at hk
    | some oi =>
      cases ho' : ops[j]? with
      | none => rw [ho, ho'] at hk; simp at hk
      | some oj =>
        rw [ho, ho'] at hk d
        simp only [Bool.and_eq_true, beq_iff_eq] at hk d
        refine ⟨fun h0 => by rw [h0] at hready; simp at hready, fun k hk' => ?_⟩
        rw [hready] at hk'
        simp only [List.mem_cons, List.not_mem_nil, or_false] at hk'
        rcases hk' with rfl | rfl
        · exact actStep ok ho hk.1 hsz (fun fr' h' n' a b => ihp _ _ fr' h' n' (by simp [hsz]) (hcl.step hi) hp1 a b) d.1
        · refine actStep ok ho' hk.2 hsz (fun fr' h' n' a b => ?_) d.2
          rw [hlen]
          exact ihq _ _ fr' h' n' (by simp [hsz]) (hcl.step hj) hp2 a b
  | s i rest ih =>
    intro inv listed fr h n hsz hcl hp hinv q
    simp only [planOkT, Bool.and_eq_true] at hp
    obtain ⟨hp1, hp2⟩ := hp
    simp only [drawT] at q
    cases ho : ops[i]? with
    | none => rw [ho] at q; exact q.elim
    | some o =>
      rw [ho] at q hp1
      simp only at q hp1
      have hsz' : (listed.setIfInBounds i true).size = ops.size := by simp [hsz]
      have hpan' : ∀ x fr h n (v : Value), EQ Q (.pan x) (fr.put o.dst v) h n → EQ Q (.pan x) fr h n := by
        rintro x fr h n v ⟨fr0, e0, q0⟩
        refine ⟨fr, .refl fr, hpan x fr0 fr h n (by rw [e0.defers, AAct.defers_put]) (fun t ht => ?_) q0⟩
        rw [e0.get]
        have hav := List.all_eq_true.1 hS o (Array.mem_toList_iff.2 (Array.mem_of_getElem? ho))
        cases hd : o.dst with
        | none => rfl
        | some d =>
          rw [hd] at hav
          rw [AAct.get_put, if_neg]
          rintro ⟨rfl, _⟩
          simp at hav
          exact hav ht
      by_cases hk : kindOf P o = 0
      · rw [if_pos hk] at q hp1
        have hready : Region.ready .any ops listed = [i] := by simpa using hp1
        have hi : i ∈ Region.ready .any ops listed := by rw [hready]; simp
        have hact : actOf P ops i = true := by simp [actOf, ho, hk]
        show AAny P (actOf P ops) ops (EQ Q) inv (rest.len + 1) listed fr h n
        refine ⟨fun h0 => by rw [h0] at hready; simp at hready, fun j hj => ?_⟩
        rw [hready] at hj
        simp only [List.mem_singleton] at hj
        subst hj
        have hdrop : Dropped P ops (listed.setIfInBounds j true) inv (inv.filter fun x => !dep ops j x.1) := by
          intro x hx
          by_cases hd : dep ops j x.1 = true
          · refine .inr ⟨j, hact, ?_, hd⟩
            have hlt : j < listed.size := by rw [hsz]; exact (Array.getElem?_eq_some_iff.1 ho).1
            rw [Array.getD_eq_getD_getElem?, Array.getElem?_setIfInBounds_self_of_lt hlt]; rfl
          · exact .inl (List.mem_filter.2 ⟨hx, by simpa using hd⟩)
        have hop : AOp P ops (EQ Q) j (fun fr' h' n' => (∀ x ∈ inv.filter (fun x => !dep ops j x.1), x.2 h') ∧ drawT P (acall P) ops Q rest (inv.filter fun x => !dep ops j x.1) fr' h' n') fr h n := by
          refine AOp.of_opW ok ho ?_
          exact opW_pan (fun v h n q => ⟨fr, .refl fr, q⟩) q
        refine hop.mono fun fr' h' n' _ _ k => ⟨?_, ?_⟩
        · intro x hx hall
          rcases hdrop x hx with h | ⟨j', h1, h2, h3⟩
          · exact k.1 x h
          · rw [hall j' h1 h2] at h3; cases h3
        · exact AAny.drop hdrop (ih _ _ fr' h' n' hsz' (hcl.step hi) hp2 k.1 k.2)
      · rw [if_neg hk] at q hp1
        simp only [Bool.and_eq_true] at hp1
        have hi : i ∈ Region.ready .any ops listed := by simpa using hp1.1
        have hact : actOf P ops i = false := by simp [actOf, ho, hk]
        have hli : listed.getD i false = false := by
          have := (mem_ready.1 hi).1
          rw [Array.getD_eq_getD_getElem?] at this ⊢
          cases hx : listed[i]? with
          | none => rfl
          | some b => rw [hx] at this; simpa using this
        have hfirst := fun (v : Value) (Y : Heap → Prop) => AAny.first (P := P) (act := actOf P ops) (ops := ops) (Q := EQ Q) (i := i) (oi := o) (v := v) ho hsel hact (fun x fr h n => hpan' x fr h n v) (EQ.ext Q) inv Y
          rest.len listed fr h n (Region.free_spec ho hp1.2) hcl hli hi
        have hinvH : inv.holds (actOf P ops) ops listed h := fun x hx _ => hinv x hx
        by_cases hw : wantedA ops o fr = true
        · rw [if_pos hw] at q
          obtain ⟨hok, q⟩ := q
          split at q
          · rename_i v hv
            by_cases hk1 : kindOf P o = 1
            · rw [if_pos hk1] at q
              refine hfirst v (fun _ => True) (fun h' _ => by unfold Calm; rw [if_pos hw]; exact ⟨hok, calmE_sound (by rw [calmE_pure hk1 _ h' h]; exact hv)⟩) trivial hinvH ?_
              exact AAny.add (fun _ => trivial) (ih inv _ _ h n hsz' (hcl.step hi) hp2 hinv q)
            · rw [if_neg hk1] at q
              refine hfirst v (fun h' => calmE P o fr.eval h' = some v) (fun h' hc => by unfold Calm; rw [if_pos hw]; exact ⟨hok, calmE_sound hc⟩) hv hinvH ?_
              refine ih _ _ _ h n hsz' (hcl.step hi) hp2 ?_ q
              intro x hx
              rcases List.mem_cons.1 hx with rfl | hx
              · exact hv
              · exact hinv x hx
          · exact q.elim
        · rw [if_neg hw] at q
          refine hfirst undef (fun _ => True) (fun h' _ => by unfold Calm; rw [if_neg hw]) trivial hinvH ?_
          exact AAny.add (fun _ => trivial) (ih inv _ _ h n hsz' (hcl.step hi) hp2 hinv q)

theorem AWp.draw_regionT (ok : POk P) {id : Nat} (plan : PlanT) (hsel : Region.noSelect ops = true) (hp : planOkT P ops plan (Array.replicate ops.size false) = true) (hlen : plan.len = ops.size) {S : List Nat} (hS : avoids S ops = true) (hpan : PanExt S Q) {fr : AAct} {h : Heap} {n : Nat}
    (q : drawT P (acall P) ops Q plan [] fr h n) : AWp P (.region id ops true) Q fr h n := by
  intro μ a w hf hr
  refine wp_region_any ok.mixed ?_
  have hcl : Closed ops (Array.replicate ops.size false) := by
    intro j k hj
    rw [Array.getD_eq_getD_getElem?, Array.getElem?_replicate] at hj
    split at hj <;> simp at hj
  have := AAny.of_drawT ok hsel hS hpan plan [] (Array.replicate ops.size false) fr h n (by simp) hcl hp (by simp) q
  rw [hlen] at this
  have hs := AAny.sound _ _ _ _ _ this μ a { w with drawn := w.drawn + 1 } hf (Rel.of_heap (w := w) rfl hr)
  refine wpAny_post ?_ hs
  intro e a' w' l
  exact (lift_EQ e a' w' l).trans (Grow.drew μ h w _) (Nat.le_refl _)
end

/-- The rest of a region in any row; what was read lies in blocks that stay. -/
structure DT (P : Program) (ops : Array Oper) (Q : APost) (K : List Nat) (plan : PlanT) (vs : List Value) (h : Heap) (n : Nat) : Prop where
  run : ∀ inv : Inv, (∀ x ∈ inv, ∀ h', KeepK K h h' → x.2 h') → drawT P (acall P) ops Q plan inv (frameV vs) h n

section
variable {P : Program} {Q : APost} {vs vs' : List Value} {h : Heap} {n : Nat} {ops : Array Oper} {o : Oper} {d : Nat} {K S S' : List Nat} {i : Nat} {plan : PlanT} {R : Value → Heap → Nat → Prop} {v : Value} {f : FuncId} {xs : List Value} {l : List Oper}
theorem AWp.anyT (ok : POk P) {id : Nat} (plan : PlanT) (hsel : Region.noSelect ops = true) (hp : planOkT P ops plan (Array.replicate ops.size false) = true) (hlen : plan.len = ops.size) (hpan : PanExt [] Q)
    (q : DT P ops Q [] plan vs h n) : AWp P (.region id ops true) Q (frameV vs) h n :=
  AWp.draw_regionT ok plan hsel hp hlen (S := []) (avoids_nil ops) hpan (q.run [] (by simp))
theorem dt.e (q : Q .normal (frameV vs) h n) : DT P ops Q K .e vs h n := ⟨fun _ _ => q⟩
theorem dt.c {v : Value} (ho : l[i]? = some o) (hk : kindOf P o = 1) (hw : wantedA l.toArray o (frameV vs) = true) (hok : okOper P.globals.size o = true) (hv : calmE P o (evalV vs) h = some v) (hd : o.dst = some d) [z : SetL vs d v vs']
    (k : DT P l.toArray Q K plan vs' h n) : DT P l.toArray Q K (.s i plan) vs h n := by
  refine ⟨fun inv hinv => ?_⟩
  have hz : vs' = setV vs o.dst v := by rw [hd]; exact z.eq.symm
  rw [hz] at k
  simp only [drawT, at_arr ho, hk, if_neg (show ¬ (1 : Nat) = 0 by decide), hw, if_true, frameV_eval, frameV_put]
  refine ⟨hok, ?_⟩
  rw [hv]
  exact k.run inv hinv
theorem dt.gB {v : Value} (b : Nat) (ho : l[i]? = some o) (hk : (kindOf P o != 0) = true) (hw : wantedA l.toArray o (frameV vs) = true) (hok : okOper P.globals.size o = true) (hv : ∀ h', (∀ o, h.get b = some o → h'.get b = some o) → calmE P o (evalV vs) h' = some v) (hd : o.dst = some d) [z : SetL vs d v vs']
    (k : DT P l.toArray Q (b :: K) plan vs' h n) : DT P l.toArray Q K (.s i plan) vs h n := by
  refine ⟨fun inv hinv => ?_⟩
  have hk' : kindOf P o ≠ 0 := by simpa using hk
  have hz : vs' = setV vs o.dst v := by rw [hd]; exact z.eq.symm
  rw [hz] at k
  simp only [drawT, at_arr ho, if_neg hk', hw, if_true, frameV_eval, frameV_put]
  refine ⟨hok, ?_⟩
  rw [hv h fun _ e => e]
  simp only
  have hinv' : ∀ x ∈ inv, ∀ h', KeepK (b :: K) h h' → x.2 h' := fun x hx h' hs => hinv x hx h' fun c hc => hs c (List.mem_cons_of_mem _ hc)
  split
  · exact k.run inv hinv'
  · refine k.run _ ?_
    intro x hx h' hs
    rcases List.mem_cons.1 hx with rfl | hx
    · exact hv h' (hs b (List.mem_cons_self ..))
    · exact hinv' x hx h' hs
theorem dt.skip' (hd : setV vs o.dst undef = vs') (ho : l[i]? = some o) (hw : wantedA l.toArray o (frameV vs) = false) (k : DT P l.toArray Q K plan vs' h n) : DT P l.toArray Q K (.s i plan) vs h n := by
  refine ⟨fun inv hinv => ?_⟩
  subst hd
  simp only [drawT, at_arr ho]
  split
  · simp only [opW, hw, Bool.false_eq_true, if_false, frameV_put]
    refine ⟨fun x hx => hinv x (List.mem_filter.1 hx).1 h (.refl K h), k.run _ fun x hx h' hs => hinv x (List.mem_filter.1 hx).1 h' hs⟩
  · simp only [hw, Bool.false_eq_true, if_false, frameV_put]
    exact k.run inv hinv
theorem dt.s (ho : l[i]? = some o) (hw : wantedA l.toArray o (frameV vs) = false) (hd : o.dst = some d) [z : SetL vs d undef vs'] (k : DT P l.toArray Q K plan vs' h n) : DT P l.toArray Q K (.s i plan) vs h n :=
  dt.skip' (by rw [hd]; exact z.eq) ho hw k
theorem dt.s0 (ho : l[i]? = some o) (hw : wantedA l.toArray o (frameV vs) = false) (hd : o.dst = none) (k : DT P l.toArray Q K plan vs h n) : DT P l.toArray Q K (.s i plan) vs h n :=
  dt.skip' (by rw [hd]; rfl) ho hw k
theorem dt.op (ho : l[i]? = some o) (hk : kindOf P o = 0) (hw : wantedA l.toArray o (frameV vs) = true) (hok : okOper P.globals.size o = true) (q : Does P o (evalV vs) h n S' R) (hK : ∀ b ∈ K, b ∉ S')
    (k : ∀ v h2 n2, R v h2 n2 → SubBut h h2 S' → n ≤ n2 → Free h2 n2 → DT P l.toArray Q K plan (setV vs o.dst v) h2 n2) : DT P l.toArray Q K (.s i plan) vs h n := by
  obtain ⟨hc, x, v, h', n', hv, hx, hs, hn, hf, hr⟩ := q
  have k := k v h' n' hr hs hn hf
  refine ⟨fun inv hinv => ?_⟩
  simp only [drawT, at_arr ho, hk, if_true, opW, hw, frameV_eval]
  refine ⟨hok, ?_⟩
  rw [hc, hv]
  have hs' := KeepK.of hK hs
  have k' := k.run (inv.filter fun x => !dep l.toArray i x.1) fun x hx h2 hs2 => hinv x (List.mem_filter.1 hx).1 h2 (hs'.trans hs2)
  have hq : ∀ x ∈ inv.filter (fun x => !dep l.toArray i x.1), x.2 h' := fun x hx => hinv x (List.mem_filter.1 hx).1 h' hs'
  rcases hx with rfl | ⟨rfl, rfl⟩
  · simp only [resW, frameV_put]; exact ⟨hq, k'⟩
  · simp only [resW, frameV_put]; exact ⟨hq, k'⟩
theorem dt.k (ho : l[i]? = some o) (hk : kindOf P o = 0) (hw : wantedA l.toArray o (frameV vs) = true) (hc : CallsF P o (evalV vs) f xs) (c : Makes P f xs h n S' R) (hK : ∀ b ∈ K, b ∉ S')
    (k : ∀ v h2 n2, R v h2 n2 → SubBut h h2 S' → n ≤ n2 → Free h2 n2 → DT P l.toArray Q K plan (setV vs o.dst v) h2 n2) : DT P l.toArray Q K (.s i plan) vs h n := by
  obtain ⟨hok, hc1, hc2⟩ := hc
  refine ⟨fun inv hinv => ?_⟩
  simp only [drawT, at_arr ho, hk, if_true, opW, hw, frameV_eval]
  refine ⟨hok, ?_⟩
  rw [hc1, hc2]
  simp only [resW]
  refine ACall.mono c ?_
  rintro r h1 n1 _ hfr ⟨v, rfl, hs, hn, hr⟩
  refine ⟨h1, Heap.sub_refl _, ?_⟩
  have hs' := KeepK.of hK hs
  simp only [frameV_put]
  exact ⟨fun x hx => hinv x (List.mem_filter.1 hx).1 h1 hs', (k v h1 n1 hr hs hn hfr).run _ fun x hx h2 hs2 => hinv x (List.mem_filter.1 hx).1 h2 (hs'.trans hs2)⟩
theorem dt.t {v : Value} (ho : l[i]? = some o) (hk : kindOf P o = 0) (hw : wantedA l.toArray o (frameV vs) = true) (hc : CallsF P o (evalV vs) f xs) (c : Free h n → Tells P f xs h n v) (hf : Free h n) (hd : o.dst = some d) [z : SetL vs d v vs']
    (k : ∀ n2, n ≤ n2 → Free h n2 → DT P l.toArray Q K plan vs' h n2) : DT P l.toArray Q K (.s i plan) vs h n := by
  refine dt.k ho hk hw hc (Tells.makes (S := []) (c hf)) (fun b _ hm => by simp at hm) ?_
  rintro u h2 n2 ⟨rfl, rfl⟩ _ hn hf2
  rw [hd, show setV vs (some d) u = vs' from z.eq]
  exact k n2 hn hf2
theorem dt.w [z : SetL vs d v vs'] (k : DT P ops Q K plan vs' h n) : DT P ops Q K plan (setV vs (some d) v) h n := by
  rw [show setV vs (some d) v = vs' from z.eq]; exact k
theorem dt.w0 (k : DT P ops Q K plan vs h n) : DT P ops Q K plan (setV vs none v) h n := k
end

/-- Two operations that act are ready: each may come first. -/
theorem dt.f {P : Program} {l : List Oper} {Q : APost} {K : List Nat} {i j : Nat} {p q : PlanT} {o o' : Oper} {vs : List Value} {h : Heap} {n : Nat} (ho : l[i]? = some o) (hk : kindOf P o = 0) (ho' : l[j]? = some o') (hk' : kindOf P o' = 0)
    (a : DT P l.toArray Q K (.s i p) vs h n) (b : DT P l.toArray Q K (.s j q) vs h n) : DT P l.toArray Q K (.f i j p q) vs h n := by
  refine ⟨fun inv hinv => ?_⟩
  have ha := a.run inv hinv
  have hb := b.run inv hinv
  simp only [drawT, at_arr ho, hk, if_true] at ha
  simp only [drawT, at_arr ho', hk', if_true] at hb
  simp only [drawT, at_arr ho, at_arr ho']
  exact ⟨ha, hb⟩
end Go.Abs
