/- texts of the claim, part 5: AbsF AbsG AbsH FenShV Runes Fen1 FenOrd FenB FenTabs FenTab2 FenL1 FenL2 FenS1 FenS2 FenS3 FenS4. -/
import Derived.Test.YtkpaklofdkjinaaDoorPa4
import Derived.Shelf.Unicode.ValidAny
import Derived.Ground.NamesProg
import Derived.Test.YtkpaklofdkjinaaDoorProg
import Derived.Lib.ValidLaws
import Derived.Lib.TrimUEq
import Derived.Test.YtkpaklofdkjinaaDoorRows
import Derived.Test.YtkpaklofdkjinaaDoorTie
set_option linter.unusedVariables false
set_option linter.unusedSimpArgs false
set_option linter.unusedSectionVars false
/- Regions whose order is drawn, in which blocks turn that are not read: what is kept, told block by block. -/
namespace Go.Abs
open Go
/-- These blocks stay. -/
def KeepK (K : List Nat) (h h' : Heap) : Prop := ∀ b ∈ K, ∀ o, h.get b = some o → h'.get b = some o
theorem KeepK.refl (K : List Nat) (h : Heap) : KeepK K h h := fun _ _ _ e => e
theorem KeepK.trans {K : List Nat} {h h1 h2 : Heap} (a : KeepK K h h1) (b : KeepK K h1 h2) : KeepK K h h2 := fun c hc o e => b c hc o (a c hc o e)
theorem KeepK.of {K S : List Nat} {h h1 : Heap} (hK : ∀ b ∈ K, b ∉ S) (s : SubBut h h1 S) : KeepK K h h1 := fun c hc o e => s c o (hK c hc) e
theorem keepN {S : List Nat} : ∀ b ∈ ([] : List Nat), b ∉ S := fun _ h => by cases h
theorem keepC {S K : List Nat} {b : Nat} (h : b ∉ S) (k : ∀ c ∈ K, c ∉ S) : ∀ c ∈ b :: K, c ∉ S := fun c hc => (List.mem_cons.1 hc).elim (fun e => e ▸ h) (k c)
/-- The rest of a region in any row; what was read lies in blocks that stay. -/
structure DK (P : Program) (ops : Array Oper) (Q : APost) (K : List Nat) (plan : List Nat) (vs : List Value) (h : Heap) (n : Nat) : Prop where
  run : ∀ inv : Inv, (∀ x ∈ inv, ∀ h', KeepK K h h' → x.2 h') → drawW P (acall P) ops Q plan inv (frameV vs) h n
section
variable {P : Program} {Q : APost} {vs vs' : List Value} {h : Heap} {n : Nat} {ops : Array Oper} {o : Oper} {d : Nat} {K S S' : List Nat} {i : Nat} {plan : List Nat} {R : Value → Heap → Nat → Prop} {v : Value} {f : FuncId} {xs : List Value} {l : List Oper}
theorem AWp.anyK (ok : POk P) {id : Nat} (plan : List Nat) (hsel : Region.noSelect ops = true) (hp : planOk P ops plan (Array.replicate ops.size false) = true) (hlen : plan.length = ops.size) (hpan : PanExt [] Q)
    (q : DK P ops Q [] plan vs h n) : AWp P (.region id ops true) Q (frameV vs) h n :=
  AWp.draw_region ok plan hsel hp hlen (S := []) (avoids_nil ops) hpan (q.run [] (by simp))
theorem dk.e (q : Q .normal (frameV vs) h n) : DK P ops Q K [] vs h n := ⟨fun _ _ => q⟩
theorem dk.c {v : Value} (ho : l[i]? = some o) (hk : kindOf P o = 1) (hw : wantedA l.toArray o (frameV vs) = true) (hok : okOper P.globals.size o = true) (hv : calmE P o (evalV vs) h = some v) (hd : o.dst = some d) [z : SetL vs d v vs']
    (k : DK P l.toArray Q K plan vs' h n) : DK P l.toArray Q K (i :: plan) vs h n := by
  refine ⟨fun inv hinv => ?_⟩
  have hz : vs' = setV vs o.dst v := by rw [hd]; exact z.eq.symm
  rw [hz] at k
  simp only [drawW, at_arr ho, hk, if_neg (show ¬ (1 : Nat) = 0 by decide), hw, if_true, frameV_eval, frameV_put]
  refine ⟨hok, ?_⟩
  rw [hv]
  exact k.run inv hinv
theorem dk.gB {v : Value} (b : Nat) (ho : l[i]? = some o) (hk : (kindOf P o != 0) = true) (hw : wantedA l.toArray o (frameV vs) = true) (hok : okOper P.globals.size o = true) (hv : ∀ h', (∀ o, h.get b = some o → h'.get b = some o) → calmE P o (evalV vs) h' = some v) (hd : o.dst = some d) [z : SetL vs d v vs']
    (k : DK P l.toArray Q (b :: K) plan vs' h n) : DK P l.toArray Q K (i :: plan) vs h n := by
  refine ⟨fun inv hinv => ?_⟩
  have hk' : kindOf P o ≠ 0 := by simpa using hk
  have hz : vs' = setV vs o.dst v := by rw [hd]; exact z.eq.symm
  rw [hz] at k
  simp only [drawW, at_arr ho, if_neg hk', hw, if_true, frameV_eval, frameV_put]
  refine ⟨hok, ?_⟩
  rw [hv h fun _ e => e]
  simp only
  have hinv' : ∀ x ∈ inv, ∀ h', KeepK (b :: K) h h' → x.2 h' := fun x hx h' hs => hinv x hx h' fun c hc => hs c (List.mem_cons_of_mem _ hc)
  split
  · exact k.run inv hinv'
  · refine k.run _ ?_
    intro x hx h' hs
    rcases List.mem_cons.1 hx with rfl | hx
    · exact hv h' (hs b (List.mem_cons_self ..))
    · exact hinv' x hx h' hs
theorem dk.skip' (hd : setV vs o.dst undef = vs') (ho : l[i]? = some o) (hw : wantedA l.toArray o (frameV vs) = false) (k : DK P l.toArray Q K plan vs' h n) : DK P l.toArray Q K (i :: plan) vs h n := by
  refine ⟨fun inv hinv => ?_⟩
  subst hd
  simp only [drawW, at_arr ho]
  split
  · simp only [opW, hw, Bool.false_eq_true, if_false, frameV_put]
    refine ⟨fun x hx => hinv x (List.mem_filter.1 hx).1 h (.refl K h), k.run _ fun x hx h' hs => hinv x (List.mem_filter.1 hx).1 h' hs⟩
  · simp only [hw, Bool.false_eq_true, if_false, frameV_put]
    exact k.run inv hinv
theorem dk.s (ho : l[i]? = some o) (hw : wantedA l.toArray o (frameV vs) = false) (hd : o.dst = some d) [z : SetL vs d undef vs'] (k : DK P l.toArray Q K plan vs' h n) : DK P l.toArray Q K (i :: plan) vs h n :=
  dk.skip' (by rw [hd]; exact z.eq) ho hw k
theorem dk.s0 (ho : l[i]? = some o) (hw : wantedA l.toArray o (frameV vs) = false) (hd : o.dst = none) (k : DK P l.toArray Q K plan vs h n) : DK P l.toArray Q K (i :: plan) vs h n :=
  dk.skip' (by rw [hd]; rfl) ho hw k
theorem dk.op (ho : l[i]? = some o) (hk : kindOf P o = 0) (hw : wantedA l.toArray o (frameV vs) = true) (hok : okOper P.globals.size o = true) (q : Does P o (evalV vs) h n S' R) (hK : ∀ b ∈ K, b ∉ S')
    (k : ∀ v h2 n2, R v h2 n2 → SubBut h h2 S' → n ≤ n2 → Free h2 n2 → DK P l.toArray Q K plan (setV vs o.dst v) h2 n2) : DK P l.toArray Q K (i :: plan) vs h n := by
  obtain ⟨hc, x, v, h', n', hv, hx, hs, hn, hf, hr⟩ := q
  have k := k v h' n' hr hs hn hf
  refine ⟨fun inv hinv => ?_⟩
  simp only [drawW, at_arr ho, hk, if_true, opW, hw, frameV_eval]
  refine ⟨hok, ?_⟩
  rw [hc, hv]
  have hs' := KeepK.of hK hs
  have k' := k.run (inv.filter fun x => !dep l.toArray i x.1) fun x hx h2 hs2 => hinv x (List.mem_filter.1 hx).1 h2 (hs'.trans hs2)
  have hq : ∀ x ∈ inv.filter (fun x => !dep l.toArray i x.1), x.2 h' := fun x hx => hinv x (List.mem_filter.1 hx).1 h' hs'
  rcases hx with rfl | ⟨rfl, rfl⟩
  · simp only [resW, frameV_put]; exact ⟨hq, k'⟩
  · simp only [resW, frameV_put]; exact ⟨hq, k'⟩
theorem dk.k (ho : l[i]? = some o) (hk : kindOf P o = 0) (hw : wantedA l.toArray o (frameV vs) = true) (hc : CallsF P o (evalV vs) f xs) (c : Makes P f xs h n S' R) (hK : ∀ b ∈ K, b ∉ S')
    (k : ∀ v h2 n2, R v h2 n2 → SubBut h h2 S' → n ≤ n2 → Free h2 n2 → DK P l.toArray Q K plan (setV vs o.dst v) h2 n2) : DK P l.toArray Q K (i :: plan) vs h n := by
  obtain ⟨hok, hc1, hc2⟩ := hc
  refine ⟨fun inv hinv => ?_⟩
  simp only [drawW, at_arr ho, hk, if_true, opW, hw, frameV_eval]
  refine ⟨hok, ?_⟩
  rw [hc1, hc2]
  simp only [resW]
  refine ACall.mono c ?_
  rintro r h1 n1 _ hfr ⟨v, rfl, hs, hn, hr⟩
  refine ⟨h1, Heap.sub_refl _, ?_⟩
  have hs' := KeepK.of hK hs
  simp only [frameV_put]
  exact ⟨fun x hx => hinv x (List.mem_filter.1 hx).1 h1 hs', (k v h1 n1 hr hs hn hfr).run _ fun x hx h2 hs2 => hinv x (List.mem_filter.1 hx).1 h2 (hs'.trans hs2)⟩
theorem dk.t {v : Value} (ho : l[i]? = some o) (hk : kindOf P o = 0) (hw : wantedA l.toArray o (frameV vs) = true) (hc : CallsF P o (evalV vs) f xs) (c : Free h n → Tells P f xs h n v) (hf : Free h n) (hd : o.dst = some d) [z : SetL vs d v vs']
    (k : ∀ n2, n ≤ n2 → Free h n2 → DK P l.toArray Q K plan vs' h n2) : DK P l.toArray Q K (i :: plan) vs h n := by
  refine dk.k ho hk hw hc (Tells.makes (S := []) (c hf)) (fun b _ hm => by simp at hm) ?_
  rintro u h2 n2 ⟨rfl, rfl⟩ _ hn hf2
  rw [hd, show setV vs (some d) u = vs' from z.eq]
  exact k n2 hn hf2
theorem dk.w [z : SetL vs d v vs'] (k : DK P ops Q K plan vs' h n) : DK P ops Q K plan (setV vs (some d) v) h n := by
  rw [show setV vs (some d) v = vs' from z.eq]; exact k
theorem dk.w0 (k : DK P ops Q K plan vs h n) : DK P ops Q K plan (setV vs none v) h n := k
end
theorem strOf_row {P : Program} {a b e : TypeId} {h : Heap} {v : Value} {bs : List UInt8} (hc : convE P a b (.slice none 0 0) = some (.string ⟨#[]⟩)) (ha : P.underlying a = some (.slice e)) (hb : P.underlying b = some .string) (he : P.underlying e = some (.int .u8)) (q : IsRow encByte h v bs) :
    (match convE P a b v with | some v => some v | none => strOfE P a b v h) = some (.string ⟨bs.toArray⟩) := by
  have h1 : ∀ x l c, convE P a b (.slice (some x) l c) = none := by
    intro x l c
    unfold convE
    rw [ha, hb]
    rfl
  have h2 := q.str ha hb he
  obtain ⟨x, c, rfl⟩ := q.slice
  cases x with
  | some x => rw [h1]; exact h2
  | none =>
    rcases q with ⟨rfl, e | ⟨b', o, cap, e⟩⟩ | ⟨b', o, cap, cs, own, ci, e, h1, h2, h3, h4⟩
    · cases e; rw [show (convE P a b (.slice none ([] : List UInt8).length 0)) = _ from hc]
    · cases e
    · cases e
/-- The first ones of a row. -/
theorem IsRow.take {α : Type} {E : Enc α} {P : Program} {t e : TypeId} {h : Heap} {a : Option Addr} {cp : Nat} {kd : IntKind} {xs : List α} {k : Nat} (hu : P.underlying t = some (.slice e)) (hi : (P.info? e).map (·.size) = some E.k)
    (q : IsRow E h (.slice a xs.length cp) xs) (hc : xs.length ≤ cp ∧ cp < U) (hk : k ≤ xs.length) :
    sliceE P t (.slice a xs.length cp) none (some (.int kd (k : Nat))) none h = some (.slice a (xs.take k).length cp) ∧ IsRow E h (.slice a (xs.take k).length cp) (xs.take k) := by
  have hl : (xs.take k).length = k := by rw [List.length_take]; omega
  have hinf : ∃ inf, P.info? e = some inf := by
    cases h40 : P.info? e with
    | none => rw [h40] at hi; cases hi
    | some inf => exact ⟨inf, rfl⟩
  obtain ⟨inf, h40⟩ := hinf
  have hb2 : boundE none k 0 = some 0 := rfl
  have hnil : a = none → xs = [] ∧ cp = 0 := by
    intro e
    subst e
    rcases q with ⟨rfl, e | ⟨b', o, cap, e⟩⟩ | ⟨b', o, cap, cs, own, ci, e, _⟩
    · cases e; exact ⟨rfl, rfl⟩
    · cases e
    · cases e
  have hprop : ∀ x, a = some x → x.spot = none := by
    intro x ex
    subst ex
    rcases q with ⟨rfl, e | ⟨b', o, cap, e⟩⟩ | ⟨b', o, cap, cs, own, ci, e, _⟩
    · cases e
    · cases e; rfl
    · cases e; rfl
  refine ⟨?_, ?_⟩
  · rw [hl]
    cases a with
    | none =>
      obtain ⟨rfl, rfl⟩ := hnil rfl
      obtain rfl : k = 0 := by simpa using hk
      unfold sliceE
      rw [hu]
      simp only [List.length_nil, h40, boundsE, boundE]
      rfl
    | some x =>
      obtain ⟨b, o, pth⟩ := x
      obtain rfl : pth = none := hprop _ rfl
      unfold sliceE
      rw [hu]
      simp only [h40]
      have hbl : boundE (some (.int kd (k : Nat))) cp xs.length = some k := by simp only [boundE]; rw [if_pos (by omega)]; simp
      rw [if_neg (by omega), if_neg (by omega), if_pos hc]
      simp only [boundsE, hbl, hb2, Option.getD_none]
      simp
  · rcases q with ⟨rfl, e | ⟨b', o, cap, e⟩⟩ | ⟨b', o, cap, cs, own, ci, e, h1, h2, h3, h4⟩
    · cases e; rw [List.take_nil]; exact .nil
    · cases e; rw [List.take_nil]; exact .empty
    · cases e
      have hm : E.k * k ≤ E.k * xs.length := Nat.mul_le_mul_left _ hk
      refine .inr ⟨b', o, cp, cs, own, ci, rfl, by omega, h2, ?_, ?_⟩
      · rw [hl, ← E.row_take, ← h3, List.take_take, Nat.min_eq_left hm]
      · rw [hl]; omega
end Go.Abs
/- Regions whose order is drawn, in which two acting operations may be ready at once: plans that fork. -/
namespace Go.Abs
open Go
inductive PlanT where
  | e
  | s (i : Nat) (r : PlanT)
  | f (i j : Nat) (p q : PlanT)
def PlanT.len : PlanT → Nat
  | .e => 0
  | .s _ r => r.len + 1
  | .f _ _ p _ => p.len + 1
def drawT (P : Program) (C : CallW) (ops : Array Oper) (Q : APost) : PlanT → Inv → ANextK
  | .e, _, fr, h, n => Q .normal fr h n
  | .s i rest, inv, fr, h, n => match ops[i]? with
    | none => False
    | some o =>
      if kindOf P o = 0 then
        opW P C ops o fr h n (fun fr' h' n' => (∀ x ∈ inv.filter (fun x => !dep ops i x.1), x.2 h') ∧ drawT P C ops Q rest (inv.filter fun x => !dep ops i x.1) fr' h' n') (fun v h' n' => Q (.pan v) fr h' n')
      else if wantedA ops o fr then
        okOper P.globals.size o = true ∧ match calmE P o fr.eval h with
          | some v => drawT P C ops Q rest (if kindOf P o = 1 then inv else (i, fun h' => calmE P o fr.eval h' = some v) :: inv) (fr.put o.dst v) h n
          | none => False
      else drawT P C ops Q rest inv (fr.put o.dst undef) h n
  | .f i j p q, inv, fr, h, n =>
    (match ops[i]? with
      | none => False
      | some o => opW P C ops o fr h n (fun fr' h' n' => (∀ x ∈ inv.filter (fun x => !dep ops i x.1), x.2 h') ∧ drawT P C ops Q p (inv.filter fun x => !dep ops i x.1) fr' h' n') (fun v h' n' => Q (.pan v) fr h' n')) ∧
    (match ops[j]? with
      | none => False
      | some o => opW P C ops o fr h n (fun fr' h' n' => (∀ x ∈ inv.filter (fun x => !dep ops j x.1), x.2 h') ∧ drawT P C ops Q q (inv.filter fun x => !dep ops j x.1) fr' h' n') (fun v h' n' => Q (.pan v) fr h' n'))
section
variable {P : Program} {ops : Array Oper} {Q : APost}
end
/-- The rest of a region in any row; what was read lies in blocks that stay. -/
structure DT (P : Program) (ops : Array Oper) (Q : APost) (K : List Nat) (plan : PlanT) (vs : List Value) (h : Heap) (n : Nat) : Prop where
  run : ∀ inv : Inv, (∀ x ∈ inv, ∀ h', KeepK K h h' → x.2 h') → drawT P (acall P) ops Q plan inv (frameV vs) h n
section
variable {P : Program} {Q : APost} {vs vs' : List Value} {h : Heap} {n : Nat} {ops : Array Oper} {o : Oper} {d : Nat} {K S S' : List Nat} {i : Nat} {plan : PlanT} {R : Value → Heap → Nat → Prop} {v : Value} {f : FuncId} {xs : List Value} {l : List Oper}
theorem dt.e (q : Q .normal (frameV vs) h n) : DT P ops Q K .e vs h n := ⟨fun _ _ => q⟩
theorem dt.c {v : Value} (ho : l[i]? = some o) (hk : kindOf P o = 1) (hw : wantedA l.toArray o (frameV vs) = true) (hok : okOper P.globals.size o = true) (hv : calmE P o (evalV vs) h = some v) (hd : o.dst = some d) [z : SetL vs d v vs']
    (k : DT P l.toArray Q K plan vs' h n) : DT P l.toArray Q K (.s i plan) vs h n := by
  refine ⟨fun inv hinv => ?_⟩
  have hz : vs' = setV vs o.dst v := by rw [hd]; exact z.eq.symm
  rw [hz] at k
  simp only [drawT, at_arr ho, hk, if_neg (show ¬ (1 : Nat) = 0 by decide), hw, if_true, frameV_eval, frameV_put]
  refine ⟨hok, ?_⟩
  rw [hv]
  exact k.run inv hinv
theorem dt.gB {v : Value} (b : Nat) (ho : l[i]? = some o) (hk : (kindOf P o != 0) = true) (hw : wantedA l.toArray o (frameV vs) = true) (hok : okOper P.globals.size o = true) (hv : ∀ h', (∀ o, h.get b = some o → h'.get b = some o) → calmE P o (evalV vs) h' = some v) (hd : o.dst = some d) [z : SetL vs d v vs']
    (k : DT P l.toArray Q (b :: K) plan vs' h n) : DT P l.toArray Q K (.s i plan) vs h n := by
  refine ⟨fun inv hinv => ?_⟩
  have hk' : kindOf P o ≠ 0 := by simpa using hk
  have hz : vs' = setV vs o.dst v := by rw [hd]; exact z.eq.symm
  rw [hz] at k
  simp only [drawT, at_arr ho, if_neg hk', hw, if_true, frameV_eval, frameV_put]
  refine ⟨hok, ?_⟩
  rw [hv h fun _ e => e]
  simp only
  have hinv' : ∀ x ∈ inv, ∀ h', KeepK (b :: K) h h' → x.2 h' := fun x hx h' hs => hinv x hx h' fun c hc => hs c (List.mem_cons_of_mem _ hc)
  split
  · exact k.run inv hinv'
  · refine k.run _ ?_
    intro x hx h' hs
    rcases List.mem_cons.1 hx with rfl | hx
    · exact hv h' (hs b (List.mem_cons_self ..))
    · exact hinv' x hx h' hs
theorem dt.skip' (hd : setV vs o.dst undef = vs') (ho : l[i]? = some o) (hw : wantedA l.toArray o (frameV vs) = false) (k : DT P l.toArray Q K plan vs' h n) : DT P l.toArray Q K (.s i plan) vs h n := by
  refine ⟨fun inv hinv => ?_⟩
  subst hd
  simp only [drawT, at_arr ho]
  split
  · simp only [opW, hw, Bool.false_eq_true, if_false, frameV_put]
    refine ⟨fun x hx => hinv x (List.mem_filter.1 hx).1 h (.refl K h), k.run _ fun x hx h' hs => hinv x (List.mem_filter.1 hx).1 h' hs⟩
  · simp only [hw, Bool.false_eq_true, if_false, frameV_put]
    exact k.run inv hinv
theorem dt.s (ho : l[i]? = some o) (hw : wantedA l.toArray o (frameV vs) = false) (hd : o.dst = some d) [z : SetL vs d undef vs'] (k : DT P l.toArray Q K plan vs' h n) : DT P l.toArray Q K (.s i plan) vs h n :=
  dt.skip' (by rw [hd]; exact z.eq) ho hw k
theorem dt.s0 (ho : l[i]? = some o) (hw : wantedA l.toArray o (frameV vs) = false) (hd : o.dst = none) (k : DT P l.toArray Q K plan vs h n) : DT P l.toArray Q K (.s i plan) vs h n :=
  dt.skip' (by rw [hd]; rfl) ho hw k
theorem dt.op (ho : l[i]? = some o) (hk : kindOf P o = 0) (hw : wantedA l.toArray o (frameV vs) = true) (hok : okOper P.globals.size o = true) (q : Does P o (evalV vs) h n S' R) (hK : ∀ b ∈ K, b ∉ S')
    (k : ∀ v h2 n2, R v h2 n2 → SubBut h h2 S' → n ≤ n2 → Free h2 n2 → DT P l.toArray Q K plan (setV vs o.dst v) h2 n2) : DT P l.toArray Q K (.s i plan) vs h n := by
  obtain ⟨hc, x, v, h', n', hv, hx, hs, hn, hf, hr⟩ := q
  have k := k v h' n' hr hs hn hf
  refine ⟨fun inv hinv => ?_⟩
  simp only [drawT, at_arr ho, hk, if_true, opW, hw, frameV_eval]
  refine ⟨hok, ?_⟩
  rw [hc, hv]
  have hs' := KeepK.of hK hs
  have k' := k.run (inv.filter fun x => !dep l.toArray i x.1) fun x hx h2 hs2 => hinv x (List.mem_filter.1 hx).1 h2 (hs'.trans hs2)
  have hq : ∀ x ∈ inv.filter (fun x => !dep l.toArray i x.1), x.2 h' := fun x hx => hinv x (List.mem_filter.1 hx).1 h' hs'
  rcases hx with rfl | ⟨rfl, rfl⟩
  · simp only [resW, frameV_put]; exact ⟨hq, k'⟩
  · simp only [resW, frameV_put]; exact ⟨hq, k'⟩
theorem dt.k (ho : l[i]? = some o) (hk : kindOf P o = 0) (hw : wantedA l.toArray o (frameV vs) = true) (hc : CallsF P o (evalV vs) f xs) (c : Makes P f xs h n S' R) (hK : ∀ b ∈ K, b ∉ S')
    (k : ∀ v h2 n2, R v h2 n2 → SubBut h h2 S' → n ≤ n2 → Free h2 n2 → DT P l.toArray Q K plan (setV vs o.dst v) h2 n2) : DT P l.toArray Q K (.s i plan) vs h n := by
  obtain ⟨hok, hc1, hc2⟩ := hc
  refine ⟨fun inv hinv => ?_⟩
  simp only [drawT, at_arr ho, hk, if_true, opW, hw, frameV_eval]
  refine ⟨hok, ?_⟩
  rw [hc1, hc2]
  simp only [resW]
  refine ACall.mono c ?_
  rintro r h1 n1 _ hfr ⟨v, rfl, hs, hn, hr⟩
  refine ⟨h1, Heap.sub_refl _, ?_⟩
  have hs' := KeepK.of hK hs
  simp only [frameV_put]
  exact ⟨fun x hx => hinv x (List.mem_filter.1 hx).1 h1 hs', (k v h1 n1 hr hs hn hfr).run _ fun x hx h2 hs2 => hinv x (List.mem_filter.1 hx).1 h2 (hs'.trans hs2)⟩
theorem dt.t {v : Value} (ho : l[i]? = some o) (hk : kindOf P o = 0) (hw : wantedA l.toArray o (frameV vs) = true) (hc : CallsF P o (evalV vs) f xs) (c : Free h n → Tells P f xs h n v) (hf : Free h n) (hd : o.dst = some d) [z : SetL vs d v vs']
    (k : ∀ n2, n ≤ n2 → Free h n2 → DT P l.toArray Q K plan vs' h n2) : DT P l.toArray Q K (.s i plan) vs h n := by
  refine dt.k ho hk hw hc (Tells.makes (S := []) (c hf)) (fun b _ hm => by simp at hm) ?_
  rintro u h2 n2 ⟨rfl, rfl⟩ _ hn hf2
  rw [hd, show setV vs (some d) u = vs' from z.eq]
  exact k n2 hn hf2
theorem dt.w [z : SetL vs d v vs'] (k : DT P ops Q K plan vs' h n) : DT P ops Q K plan (setV vs (some d) v) h n := by
  rw [show setV vs (some d) v = vs' from z.eq]; exact k
theorem dt.w0 (k : DT P ops Q K plan vs h n) : DT P ops Q K plan (setV vs none v) h n := k
end
/-- Two operations that act are ready: each may come first. -/
theorem dt.f {P : Program} {l : List Oper} {Q : APost} {K : List Nat} {i j : Nat} {p q : PlanT} {o o' : Oper} {vs : List Value} {h : Heap} {n : Nat} (ho : l[i]? = some o) (hk : kindOf P o = 0) (ho' : l[j]? = some o') (hk' : kindOf P o' = 0)
    (a : DT P l.toArray Q K (.s i p) vs h n) (b : DT P l.toArray Q K (.s j q) vs h n) : DT P l.toArray Q K (.f i j p q) vs h n := by
  refine ⟨fun inv hinv => ?_⟩
  have ha := a.run inv hinv
  have hb := b.run inv hinv
  simp only [drawT, at_arr ho, hk, if_true] at ha
  simp only [drawT, at_arr ho', hk', if_true] at hb
  simp only [drawT, at_arr ho, at_arr ho']
  exact ⟨ha, hb⟩
end Go.Abs
/- Calls that may throw: they make, or they panic with one value. -/
namespace Go.Abs
open Go
/-- It makes, or it panics with w; then T. -/
def Throws (P : Program) (f : FuncId) (args : List Value) (h : Heap) (n : Nat) (S : List Nat) (R : Value → Heap → Nat → Prop) (w : Value) (T : Prop) : Prop :=
  ACall P f args.toArray h n fun r h' n' => (∃ v, r = .ret v ∧ SubBut h h' S ∧ n ≤ n' ∧ R v h' n') ∨ (r = .pan w ∧ SubBut h h' S ∧ n ≤ n' ∧ T)
section
variable {P : Program} {f : FuncId} {args : List Value} {h : Heap} {n : Nat} {S : List Nat} {R R' : Value → Heap → Nat → Prop} {w : Value} {T T' : Prop}
theorem Throws.mono (c : Throws P f args h n S R w T) (hr : ∀ v h' n', SubBut h h' S → n ≤ n' → Free h' n' → R v h' n' → R' v h' n') (ht : T → T') : Throws P f args h n S R' w T' :=
  ACall.mono c fun _ h' _ _ hf q => ⟨h', Heap.sub_refl _, q.elim (fun ⟨v, e, hs, hn, q⟩ => .inl ⟨v, e, hs, hn, hr v h' _ hs hn hf q⟩) (fun ⟨e, hs, hn, q⟩ => .inr ⟨e, hs, hn, ht q⟩)⟩
theorem Throws.free (q : Free h n → Throws P f args h n S R w T) : Throws P f args h n S R w T := ACall.free q
theorem Throws.of_bodyV {fn : Func} {c : Code} {vs : List Value}
    (hf : P.funcs[f]? = some fn) (hb : fn.body = some c) (hvs : vs = args ++ List.replicate (fn.ntmps - args.length) undef)
    (q : AWp P c (bodyA P fn fun r h' n' => (∃ v, r = .ret v ∧ SubBut h h' S ∧ n ≤ n' ∧ R v h' n') ∨ (r = .pan w ∧ SubBut h h' S ∧ n ≤ n' ∧ T)) (frameV vs) h n) : Throws P f args h n S R w T :=
  ACall.of_bodyV hf hb hvs q
end
section
variable {P : Program} {Q : APost} {vs vs' : List Value} {h : Heap} {n : Nat} {ops : Array Oper} {o : Oper} {rest : List Oper} {S : List Nat} {R : Value → Heap → Nat → Prop} {v w : Value} {T : Prop} {f : FuncId} {xs : List Value}
/-- A call that may throw. -/
theorem sq.x (hw : wantedA ops o (frameV vs) = true) (hc : CallsF P o (evalV vs) f xs) (c : Throws P f xs h n S R w T)
    (kp : ∀ h2 n2, T → SubBut h h2 S → n ≤ n2 → Q (.pan w) (frameV vs) h2 n2)
    (k : ∀ v h2 n2, R v h2 n2 → SubBut h h2 S → n ≤ n2 → Free h2 n2 → SW P ops Q rest (setV vs o.dst v) h2 n2) : SW P ops Q (o :: rest) vs h n := by
  obtain ⟨hok, hc1, hc2⟩ := hc
  refine ⟨?_⟩
  simp only [seqW, opW, hw, if_true, frameV_eval]
  refine ⟨hok, ?_⟩
  rw [hc1, hc2]
  refine ACall.mono c ?_
  rintro r h1 n1 _ hfr (⟨v, rfl, hs, hn, hr⟩ | ⟨rfl, hs, hn, ht⟩)
  · exact ⟨h1, Heap.sub_refl _, by simp only [frameV_put]; exact (k v h1 n1 hr hs hn hfr).run⟩
  · exact ⟨h1, Heap.sub_refl _, kp h1 n1 ht hs hn⟩
/-- A panic. -/
theorem sq.p {t : TypeId} {u : Value} {x : Operand} {dst : Option Tmp} {ty : TypeId} {pos : String} {after : Array Edge} {guard : Option (Nat × Bool)}
    (hw : wantedA ops ⟨dst, .panic x, ty, pos, after, guard⟩ (frameV vs) = true) (hok : okOper P.globals.size ⟨dst, .panic x, ty, pos, after, guard⟩ = true) (hx : evalV vs x = .iface t u) (q : Q (.pan (.iface t u)) (frameV vs) h n) :
    SW P ops Q (⟨dst, .panic x, ty, pos, after, guard⟩ :: rest) vs h n := by
  refine ⟨?_⟩
  simp only [seqW, opW, hw, if_true, frameV_eval]
  refine ⟨hok, ?_⟩
  have hc : calmE P ⟨dst, .panic x, ty, pos, after, guard⟩ (evalV vs) h = none := rfl
  have ha : actE P ⟨dst, .panic x, ty, pos, after, guard⟩ (evalV vs) h n = some (.pan (.iface t u), h, n) := by simp only [actE, hx]
  rw [hc, ha]
  exact q
end
/-- A result that lies in memory. -/
theorem res_cell {P : Program} {vs : List Value} {h : Heap} {a : Tmp} {t : TypeId} {v : Value} (hl : loadE P t (getV vs a) h = some v) : resultsE P (frameV vs) h [.cell a t] = some [v] := by
  have e : resultE P (frameV vs) h (.cell a t) = some v := by
    show loadE P t ((frameV vs).get a) h = some v
    rw [frameV_get]; exact hl
  show (match resultE P (frameV vs) h (.cell a t), resultsE P (frameV vs) h [] with | some x, some xs => some (x :: xs) | _, _ => none) = _
  rw [e]; rfl
/-! Operations that act and leave the heap: places of no type, entries of the model's own, a slice's place. -/
section
variable {P : Program} {h : Heap} {n : Nat} {o : Oper}
theorem Does.stay {ρ : Operand → Value} {v : Value} (hf : Free h n) (hc : calmE P o ρ h = none) (hv : actE P o ρ h n = some (.val v, h, n)) : Does P o ρ h n [] fun u h2 _ => u = v ∧ h2 = h :=
  ⟨hc, _, v, _, _, hv, .inl rfl, .refl _ _, Nat.le_refl n, hf, rfl, rfl⟩
theorem calleeE_none {f : FuncId} {fn : Func} {xs : List Value} (hf : P.funcs[f]? = some fn) (hb : fn.body = none) : calleeE P (.func (.func f) #[] #[]) xs = none := by
  simp [calleeE, hf, hb]
theorem Does.same {ρ : Operand → Value} {dst : Option Tmp} {f : FuncId} {fn : Func} {a : Operand} {ts : Array TypeId} {ty : TypeId} {pos : String} {after : Array Edge} {guard : Option (Nat × Bool)} {v : Value} (hf : Free h n)
    (hfn : P.funcs[f]? = some fn) (hb : fn.body = none) (hk : xfnOf fn = some .same) (hρ : ρ (.func f) = .func (.func f) #[] #[]) (hx : ρ a = v) :
    Does P ⟨dst, .call { callee := .value (.func f), args := #[a], argTypes := ts }, ty, pos, after, guard⟩ ρ h n [] fun u h2 _ => u = v ∧ h2 = h := by
  refine Does.stay hf rfl ?_
  show (match calleeE P (ρ (.func f)) [ρ a] with | some (k, zs) => some (ARes.ent k zs, h, n) | none => externE P (ρ (.func f)) [ρ a] h n) = _
  rw [hρ, calleeE_none hfn hb]
  simp only [externE, hfn, hk, hx]
  rfl
theorem Does.indexByte {ρ : Operand → Value} {dst : Option Tmp} {f : FuncId} {fn : Func} {a c : Operand} {ts : Array TypeId} {ty : TypeId} {pos : String} {after : Array Edge} {guard : Option (Nat × Bool)} {s : ByteArray} {k : Int} (hf : Free h n)
    (hfn : P.funcs[f]? = some fn) (hb : fn.body = none) (hk : xfnOf fn = some .indexByte) (hρ : ρ (.func f) = .func (.func f) #[] #[]) (hx : ρ a = .string s) (hc : ρ c = .int .u8 k) :
    Does P ⟨dst, .call { callee := .value (.func f), args := #[a, c], argTypes := ts }, ty, pos, after, guard⟩ ρ h n [] fun u h2 _ => u = .int .i64 (Lib.indexByte s.data.toList k.toNat.toUInt8) ∧ h2 = h := by
  refine Does.stay hf rfl ?_
  show (match calleeE P (ρ (.func f)) [ρ a, ρ c] with | some (k, zs) => some (ARes.ent k zs, h, n) | none => externE P (ρ (.func f)) [ρ a, ρ c] h n) = _
  rw [hρ, calleeE_none hfn hb]
  simp only [externE, hfn, hk, hx, hc]
  rfl
end
end Go.Abs
/- Bodies with deferred calls, step by step. -/
namespace Go.Abs
open Go
theorem ACallD.free {P : Program} {f : FuncId} {args : Array Value} {m : MS} {h : Heap} {n : Nat} {Q : DPost} (q : Free h n → ACallD P f args m h n Q) : ACallD P f args m h n Q :=
  fun μ a w u ha hr hm => q (fun _ hb => hr.below hb) μ a w u ha hr hm
theorem ACallD.mono {P : Program} {f : FuncId} {args : Array Value} {m : MS} {h : Heap} {n : Nat} {Q Q' : DPost} (c : ACallD P f args m h n Q) (hq : ∀ r m' h' n', n ≤ n' → Q r m' h' n' → Q' r m' h' n') : ACallD P f args m h n Q' := by
  intro μ a w u ha hr hm
  refine (c μ a w u ha hr hm).mono ?_
  rintro e u' w' ⟨μ', h', n', r, m', x1, x2, x3, x4, x5, q⟩
  exact ⟨μ', h', n', r, m', x1, x2, x3, x4, x5, hq _ _ _ _ x4 q⟩
/-- A frame with deferred calls. -/
def frameD (vs : List Value) (ds : List Deferred) : AAct := { frameV vs with defers := ds }
theorem frameD_eval (vs : List Value) (ds : List Deferred) : (frameD vs ds).eval = evalV vs := by
  have e : (frameD vs ds).eval = (frameV vs).eval := by funext x; cases x <;> rfl
  rw [e, frameV_eval]
theorem frameD_put (vs : List Value) (ds : List Deferred) (d : Option Tmp) (v : Value) : (frameD vs ds).put d v = frameD (setV vs d v) ds := by
  have e := frameV_put vs d v
  cases d with
  | none => rfl
  | some d =>
    unfold frameD
    simp only [AAct.put] at e ⊢
    by_cases hd : d < (frameV vs).size
    · rw [if_pos hd] at e ⊢
      rw [← e]
    · rw [if_neg hd] at e ⊢
      rw [← e]
theorem wantedD {ops : Array Oper} {o : Oper} {vs : List Value} {ds : List Deferred} (hg : o.guard = none) : wantedA ops o (frameD vs ds) = true := wantedA_none hg
section
variable {P : Program} {Q : APost} {vs : List Value} {ds : List Deferred} {h : Heap} {n : Nat} {ops : Array Oper} {o : Oper} {rest : List Oper} {S : List Nat} {R : Value → Heap → Nat → Prop} {v w : Value} {T : Prop} {f : FuncId} {xs : List Value}
theorem sd.e (q : Q .normal (frameD vs ds) h n) : seqW P (acall P) ops Q [] (frameD vs ds) h n := q
theorem sd.c (vs' : List Value) {v : Value} (hg : o.guard = none) (hok : okOper P.globals.size o = true) (hv : calmE P o (evalV vs) h = some v) (hd : setV vs o.dst v = vs') (k : seqW P (acall P) ops Q rest (frameD vs' ds) h n) : seqW P (acall P) ops Q (o :: rest) (frameD vs ds) h n := by
  subst hd
  simp only [seqW, opW, wantedD hg, if_true, frameD_eval, frameD_put]
  exact ⟨hok, by rw [hv]; exact k⟩
theorem sd.op (hg : o.guard = none) (hok : okOper P.globals.size o = true) (d : Does P o (evalV vs) h n S R)
    (k : ∀ v h2 n2, R v h2 n2 → SubBut h h2 S → n ≤ n2 → Free h2 n2 → seqW P (acall P) ops Q rest (frameD (setV vs o.dst v) ds) h2 n2) : seqW P (acall P) ops Q (o :: rest) (frameD vs ds) h n := by
  obtain ⟨hc, x, v, h', n', hv, hx, hs, hn, hf, hr⟩ := d
  simp only [seqW, opW, wantedD hg, if_true, frameD_eval]
  refine ⟨hok, ?_⟩
  rw [hc, hv]
  have := k v h' n' hr hs hn hf
  rcases hx with rfl | ⟨rfl, rfl⟩
  · simp only [resW, frameD_put]; exact this
  · simp only [resW, frameD_put]; exact this
theorem sd.x (hg : o.guard = none) (hc : CallsF P o (evalV vs) f xs) (c : Throws P f xs h n S R w T)
    (kp : ∀ h2 n2, T → SubBut h h2 S → n ≤ n2 → Free h2 n2 → Q (.pan w) (frameD vs ds) h2 n2)
    (k : ∀ v h2 n2, R v h2 n2 → SubBut h h2 S → n ≤ n2 → Free h2 n2 → seqW P (acall P) ops Q rest (frameD (setV vs o.dst v) ds) h2 n2) : seqW P (acall P) ops Q (o :: rest) (frameD vs ds) h n := by
  obtain ⟨hok, hc1, hc2⟩ := hc
  simp only [seqW, opW, wantedD hg, if_true, frameD_eval]
  refine ⟨hok, ?_⟩
  rw [hc1, hc2]
  refine ACall.mono c ?_
  rintro r h1 n1 _ hfr (⟨v, rfl, hs, hn, hr⟩ | ⟨rfl, hs, hn, ht⟩)
  · exact ⟨h1, Heap.sub_refl _, by simp only [frameD_put]; exact k v h1 n1 hr hs hn hfr⟩
  · exact ⟨h1, Heap.sub_refl _, kp h1 n1 ht hs hn hfr⟩
/-- A call is deferred. -/
theorem sd.d {c : Call} {fo : Operand} {ty : TypeId} {pos : String} {after : Array Edge} {dst : Option Tmp} {d : Deferred} (hok : okOper P.globals.size ⟨dst, .defer c, ty, pos, after, none⟩ = true) (hcal : c.callee = .value fo) (hd : deferE (evalV vs fo) (c.args.toList.map (evalV vs)) = some d)
    (k : seqW P (acall P) ops Q rest (frameD (setV vs dst undef) (d :: ds)) h n) : seqW P (acall P) ops Q (⟨dst, .defer c, ty, pos, after, none⟩ :: rest) (frameD vs ds) h n := by
  simp only [seqW, opW, wantedD (o := ⟨dst, .defer c, ty, pos, after, none⟩) rfl, if_true, frameD_eval]
  refine ⟨hok, ?_⟩
  have hc : calmE P ⟨dst, .defer c, ty, pos, after, none⟩ (evalV vs) h = none := rfl
  have ha : actE P ⟨dst, .defer c, ty, pos, after, none⟩ (evalV vs) h n = some (.dfr d, h, n) := by
    simp only [actE, hcal, hd]
  rw [hc, ha]
  simp only [resW]
  have e : (({ frameD vs ds with defers := d :: (frameD vs ds).defers } : AAct).put dst undef) = frameD (setV vs dst undef) (d :: ds) := frameD_put vs (d :: ds) dst undef
  rw [e]
  exact k
end
end Go.Abs
/- Maps by what they hold; iterators; rows that nobody changes. -/
namespace Go.Abs
open Go
theorem equal_struct {P : Program} {t : TypeId} {fs : Array Field} {xs ys : Array Value} {b : Bool} (hu : P.underlying t = some (.struct fs)) (hs : P.stoodInHeld t = false) (e : eqFields P fs.toList xs ys = some b) : pureRun P (Op.equal t (.agg xs) (.agg ys)) = some b := by
  unfold Op.equal
  obtain ⟨k, hk⟩ : ∃ k, Op.maxDepth = k + 2 := ⟨9998, rfl⟩
  rw [hk]
  unfold Op.equalIn
  rw [pureRun_bind, pureRun_underlying hu]
  simp only [Option.bind_some]
  rw [pureRun_bind]
  show (Option.bind (some P) _) = _
  simp only [Option.bind_some, hs, Bool.false_eq_true, if_false]
  rw [pureRun_bind, ← Array.forIn_toList, eqFields_run fs.toList b e]
  cases b <;> rfl
/-- A type of keys, and how they read. -/
structure KeyT (P : Program) (kt : TypeId) {κ : Type} [DecidableEq κ] (K : κ → Value) : Prop where
  flat : ∀ k, flat (K k) = true
  und : (P.underlying kt).isSome = true
  chk : ∀ e k, pureRun P (Instr.checkKey e 10000 kt (K k)) = some ()
  eq : ∀ a b, pureRun P (Op.equal kt (K a) (K b)) = some (decide (a = b))
  same : ∀ k, Instr.sameBits 10000 (K k) (K k) = true
section
variable {κ ν : Type} [DecidableEq κ]
/-- A map's entries, by keys, values and stamps. -/
def mapE (K : κ → Value) (V : ν → Value) (L : List (κ × ν × Nat)) : List MapEntry := L.map fun x => { key := K x.1, val := V x.2.1, born := x.2.2 }
def mget (L : List (κ × ν × Nat)) (k : κ) : Option ν := (L.find? fun x => decide (x.1 = k)).map fun x => x.2.1
def midx (L : List (κ × ν × Nat)) (k : κ) : Option Nat := L.findIdx? fun x => decide (x.1 = k)
def mset (L : List (κ × ν × Nat)) (ck : Nat) (k : κ) (v : ν) : List (κ × ν × Nat) := match midx L k with
  | some i => L.modify i fun x => (k, v, x.2.2)
  | none => L ++ [(k, v, ck)]
def mck (L : List (κ × ν × Nat)) (ck : Nat) (k : κ) : Nat := match midx L k with
  | some _ => ck
  | none => ck + 1
/-- Stamps that are below a clock, each once; keys, each once. -/
structure MOk (L : List (κ × ν × Nat)) (ck : Nat) : Prop where
  lt : ∀ x ∈ L, x.2.2 < ck
  keys : (L.map fun x => x.1).Nodup
  stamps : (L.map fun x => x.2.2).Nodup
theorem MOk.nil : MOk ([] : List (κ × ν × Nat)) 0 := ⟨by simp, by simp, by simp⟩
theorem mapE_get {K : κ → Value} {V : ν → Value} {L : List (κ × ν × Nat)} {i : Nat} {x : κ × ν × Nat} (h : L[i]? = some x) : (mapE K V L)[i]? = some { key := K x.1, val := V x.2.1, born := x.2.2 } := by simp [mapE, h]
theorem midx_get {L : List (κ × ν × Nat)} {k : κ} {i : Nat} (h : midx L k = some i) : ∃ v s, L[i]? = some (k, v, s) ∧ mget L k = some v := by
  unfold midx at h
  rw [List.findIdx?_eq_some_iff_getElem] at h
  obtain ⟨hi, h1, h2⟩ := h
  refine ⟨L[i].2.1, L[i].2.2, ?_, ?_⟩
  · rw [List.getElem?_eq_getElem hi]
    simp only [decide_eq_true_eq] at h1
    rw [← h1]
  · unfold mget
    have : L.find? (fun x => decide (x.1 = k)) = some L[i] := by
      rw [List.find?_eq_some_iff_getElem]
      exact ⟨h1, i, hi, rfl, fun j hj => by simpa using h2 j hj⟩
    rw [this]; rfl
theorem midx_none {L : List (κ × ν × Nat)} {k : κ} (h : midx L k = none) : mget L k = none ∧ ∀ x ∈ L, x.1 ≠ k := by
  unfold midx at h
  rw [List.findIdx?_eq_none_iff] at h
  have h2 : ∀ x ∈ L, x.1 ≠ k := fun x hx => by simpa using h x hx
  refine ⟨?_, h2⟩
  unfold mget
  rw [List.find?_eq_none.2 (fun x hx => by simpa using h2 x hx)]
  rfl
theorem MOk.set {L : List (κ × ν × Nat)} {ck : Nat} (o : MOk L ck) (k : κ) (v : ν) : MOk (mset L ck k v) (mck L ck k) := by
  unfold mset mck
  cases h : midx L k with
  | none =>
    obtain ⟨_, h2⟩ := midx_none h
    refine ⟨?_, ?_, ?_⟩
    · intro x hx
      rcases List.mem_append.1 hx with hx | hx
      · have := o.lt x hx; show _ < ck + 1; omega
      · rw [List.mem_singleton] at hx; subst hx; simp
    · rw [List.map_append, List.nodup_append]
      refine ⟨o.keys, by simp, ?_⟩
      intro a ha b hb
      simp only [List.map_cons, List.map_nil, List.mem_singleton] at hb
      subst hb
      obtain ⟨x, hx, rfl⟩ := List.mem_map.1 ha
      exact h2 x hx
    · rw [List.map_append, List.nodup_append]
      refine ⟨o.stamps, by simp, ?_⟩
      intro a ha b hb
      simp only [List.map_cons, List.map_nil, List.mem_singleton] at hb
      subst hb
      obtain ⟨x, hx, rfl⟩ := List.mem_map.1 ha
      have := o.lt x hx
      omega
  | some i =>
    obtain ⟨v0, s, hi, _⟩ := midx_get h
    have e1 : ((L.modify i fun x => (k, v, x.2.2)).map fun x => x.1) = L.map fun x => x.1 := by
      apply List.ext_getElem?
      intro j
      rw [List.getElem?_map, List.getElem?_map, List.getElem?_modify]
      by_cases hij : i = j
      · subst hij; simp [hi]
      · simp [hij]
    have e2 : ((L.modify i fun x => (k, v, x.2.2)).map fun x => x.2.2) = L.map fun x => x.2.2 := by
      apply List.ext_getElem?
      intro j
      rw [List.getElem?_map, List.getElem?_map, List.getElem?_modify]
      by_cases hij : i = j
      · subst hij; simp [hi]
      · simp [hij]
    refine ⟨?_, e1 ▸ o.keys, e2 ▸ o.stamps⟩
    intro x hx
    have hm : x.2.2 ∈ (L.modify i fun x => (k, v, x.2.2)).map fun x => x.2.2 := List.mem_map.2 ⟨x, hx, rfl⟩
    rw [e2] at hm
    obtain ⟨y, hy, e⟩ := List.mem_map.1 hm
    rw [← e]
    exact o.lt y hy
theorem mget_mset (L : List (κ × ν × Nat)) (ck : Nat) (k j : κ) (v : ν) : mget (mset L ck k v) j = if j = k then some v else mget L j := by
  unfold mset
  cases h : midx L k with
  | none =>
    obtain ⟨h1, h2⟩ := midx_none h
    unfold mget
    simp only [List.find?_append]
    by_cases hj : j = k
    · subst hj
      have : L.find? (fun x => decide (x.1 = j)) = none := List.find?_eq_none.2 (fun x hx => by simpa using h2 x hx)
      simp [this]
    · rw [if_neg hj]
      cases L.find? (fun x => decide (x.1 = j)) with
      | some x => rfl
      | none => simp [Ne.symm hj]
  | some i =>
    obtain ⟨v0, s, hi, _⟩ := midx_get h
    have key : ∀ (L : List (κ × ν × Nat)) (i : Nat), L[i]? = some (k, v0, s) → (∀ m, m < i → ∀ x, L[m]? = some x → x.1 ≠ k) → mget (L.modify i fun x => (k, v, x.2.2)) j = if j = k then some v else mget L j := by
      intro L
      induction L with
      | nil => intro i hi; simp at hi
      | cons a L ih =>
        intro i hi hb
        cases i with
        | zero =>
          simp at hi
          subst hi
          simp only [List.modify_zero_cons, mget, List.find?_cons]
          by_cases hj : j = k
          · subst hj; simp
          · simp [Ne.symm hj, hj]
        | succ i =>
          have ha : a.1 ≠ k := hb 0 (by omega) a (by simp)
          simp only [List.modify_succ_cons]
          have ih' := ih i (by simpa using hi) (fun m hm x hx => hb (m + 1) (by omega) x (by simpa using hx))
          unfold mget at ih' ⊢
          simp only [List.find?_cons]
          by_cases hja : a.1 = j
          · have hjk : ¬ j = k := fun e => ha (hja.trans e)
            simp [hja, hjk]
          · simp only [hja, decide_false]
            exact ih'
    have hlt : ∀ m, m < i → ∀ x, L[m]? = some x → x.1 ≠ k := by
      unfold midx at h
      rw [List.findIdx?_eq_some_iff_getElem] at h
      obtain ⟨hi', _, h2⟩ := h
      intro m hm x hx
      have h3 := h2 m hm
      obtain ⟨hml, rfl⟩ := List.getElem?_eq_some_iff.1 hx
      simpa using h3
    exact key L i hi hlt
end
section
variable {P : Program} {κ ν : Type} [DecidableEq κ] {K : κ → Value} {V : ν → Value} {kt el t : TypeId} {L : List (κ × ν × Nat)} {ck : Nat} {h : Heap} {n b : Nat} {k : κ}
theorem findE_mapE (T : KeyT P kt K) : ∀ (L : List (κ × ν × Nat)) (i : Nat), findE P kt (K k) (mapE K V L) i = some ((midx L k).map (· + i)) := by
  intro L
  induction L with
  | nil => intro i; rfl
  | cons a L ih =>
    intro i
    have hk : keyEqE P kt (K k) (K a.1) = some (decide (k = a.1)) := by unfold keyEqE; rw [T.flat, T.flat]; simp only [Bool.and_self, if_true, T.eq]
    show (match keyEqE P kt (K k) (K a.1) with | some true => some (some i) | some false => findE P kt (K k) (mapE K V L) (i + 1) | none => none) = _
    rw [hk]
    unfold midx
    rw [List.findIdx?_cons]
    by_cases hka : k = a.1
    · subst hka; simp
    · simp only [hka, decide_false, Ne.symm hka]
      rw [ih]
      unfold midx
      cases L.findIdx? fun x => decide (x.1 = k) with
      | none => rfl
      | some j => simp; omega
/-- What a map holds at a key; nothing: its zero value. -/
theorem lk {d : ν} (ht : P.underlying t = some (.map kt el)) (T : KeyT P kt K) (hz : ((P.info? el).bind (·.zero)) = some (V d)) (hf : flat (V d) = true) (hb : h.get b = some (.map (mapE K V L) ck)) :
    lookupE P t (.map (some b)) (K k) false h = some (V ((mget L k).getD d)) := by
  unfold lookupE
  rw [ht]
  have he : entriesE h (.map (some b)) = some (mapE K V L) := by simp only [entriesE, hb]
  simp only [he, T.flat, if_true, T.chk, findE_mapE T]
  obtain ⟨dd, hd⟩ := Option.isSome_iff_exists.1 T.und
  rw [hd]
  simp only
  cases hm : midx L k with
  | some i =>
    obtain ⟨v, s, hi, hg⟩ := midx_get hm
    simp only [Option.map_some, Nat.add_zero, mapE_get hi, hg]
    rfl
  | none =>
    rw [(midx_none hm).1]
    obtain ⟨inf, hi, hz⟩ := Option.bind_eq_some_iff.1 hz
    simp only [Option.map_none, hi, hz, hf]
    rfl
theorem mapE_mset (L : List (κ × ν × Nat)) (k : κ) (v : ν) : (match midx L k with
    | some i => (mapE K V L).modify i fun e => { e with key := K k, val := V v }
    | none => mapE K V L ++ [{ key := K k, val := V v, born := ck }]) = mapE K V (mset L ck k v) := by
  unfold mset
  cases hm : midx L k with
  | none => simp [mapE]
  | some i =>
    apply List.ext_getElem?
    intro j
    simp only [mapE, List.getElem?_modify, List.getElem?_map]
    cases hj : L[j]? with
    | none => simp
    | some x =>
      by_cases hij : i = j
      · subst hij; simp
      · simp [hij]
/-- A map takes an entry. -/
theorem Does.mapSet {ρ : Operand → Value} {dst : Option Tmp} {m kk x : Operand} {ty : TypeId} {pos : String} {after : Array Edge} {guard : Option (Nat × Bool)} {v : ν} {vk vv : Value} (hf : Free h n) (ht : P.underlying t = some (.map kt el)) (T : KeyT P kt K)
    (hm : ρ m = .map (some b)) (hk : ρ kk = vk) (hvk : vk = K k) (hx : ρ x = vv) (hvv : vv = V v) (hb : h.get b = some (.map (mapE K V L) ck)) :
    Does P ⟨dst, .mapUpdate t m kk x, ty, pos, after, guard⟩ ρ h n [b] fun u h2 _ => u = undef ∧ h2.get b = some (.map (mapE K V (mset L ck k v)) (mck L ck k)) := by
  subst hvk hvv
  refine ⟨rfl, .skip, undef, h.set b (.map (mapE K V (mset L ck k v)) (mck L ck k)), n, ?_, .inr ⟨rfl, rfl⟩, .set _ _ _, Nat.le_refl _, hf.setAt hb, rfl, Trie.get_set_same _ _ _⟩
  show mapUpdateE P t (ρ m) (ρ kk) (ρ x) h n = _
  rw [hm, hk, hx]
  unfold mapUpdateE
  rw [ht]
  simp only [hb, T.flat, if_true, T.chk, findE_mapE T]
  obtain ⟨dd, hd⟩ := Option.isSome_iff_exists.1 T.und
  rw [hd]
  have hs := mapE_mset (K := K) (V := V) (ck := ck) L k v
  cases hmi : midx L k with
  | none =>
    rw [hmi] at hs
    simp only [Option.map_none]
    simp only at hs
    rw [hs]
    simp [mck, hmi]
  | some i =>
    obtain ⟨v0, s, hi, hg⟩ := midx_get hmi
    rw [hmi] at hs
    simp only at hs
    simp only [Option.map_some, Nat.add_zero, mapE_get hi, T.flat, T.same, Bool.and_self, if_true, hs]
    simp [mck, hmi]
theorem Does.makeMap {ρ : Operand → Value} {dst : Option Tmp} {ty : TypeId} {pos : String} {after : Array Edge} {guard : Option (Nat × Bool)} (hf : Free h n) : Does P ⟨dst, .makeMap t none, ty, pos, after, guard⟩ ρ h n [] fun u h2 _ => u = .map (some n) ∧ h2.get n = some (.map [] 0) :=
  Does.new hf rfl (by
    show makeMapE P t none h n = _
    unfold makeMapE; rfl)
theorem Does.entry {ρ : Operand → Value} {dst : Option Tmp} {x : Operand} {ty : TypeId} {pos : String} {after : Array Edge} {guard : Option (Nat × Bool)} {it since : Nat} {seen : List Nat} {y : κ × ν × Nat} (hf : Free h n) (ok : MOk L ck) (hx : ρ x = .pointer (some ⟨it, 0, none⟩))
    (hi : h.get it = some (.miter (some b) since (seen ++ [y.2.2]) ck)) (hb : h.get b = some (.map (mapE K V L) ck)) (hy : y ∈ L) :
    Does P ⟨dst, .entry x, ty, pos, after, guard⟩ ρ h n [] fun u _ _ => u = .tuple #[K y.1, V y.2.1] := by
  refine ⟨rfl, _, _, h, n, ?_, .inl rfl, .refl _ _, Nat.le_refl _, hf, rfl⟩
  have hfind : ∀ (L : List (κ × ν × Nat)), (L.map fun x => x.2.2).Nodup → y ∈ L → (mapE K V L).find? (fun e => e.born == y.2.2) = some { key := K y.1, val := V y.2.1, born := y.2.2 } := by
    intro L hn hx
    induction L with
    | nil => cases hx
    | cons a L ih =>
      rw [List.map_cons, List.nodup_cons] at hn
      show List.find? _ ({ key := K a.1, val := V a.2.1, born := a.2.2 } :: mapE K V L) = _
      rw [List.find?_cons]
      rcases List.mem_cons.1 hx with rfl | hx'
      · simp
      · have : (a.2.2 == y.2.2) = false := by
          rw [beq_eq_false_iff_ne]
          intro e
          exact hn.1 (List.mem_map.2 ⟨y, hx', e.symm⟩)
        simp only [this]
        exact ih hn.2 hx'
  show (match entryE (ρ x) h with | some v => some (ARes.val v, h, n) | none => none) = _
  have : entryE (ρ x) h = some (.tuple #[K y.1, V y.2.1]) := by
    rw [hx]
    simp only [entryE, hi, hb, List.getLast?_append, List.getLast?_singleton, Option.some_or, if_true, hfind L ok.stamps hy]
  rw [this]
end
section
variable {P : Program} {Q : APost} {vs vs' : List Value} {h : Heap} {n : Nat} {ops : Array Oper} {rest : List Oper} {d : Nat}
/-- The next entry of a map: the end, or any that is left. -/
theorem sq.nx {κ ν : Type} {K : κ → Value} {V : ν → Value} {L : List (κ × ν × Nat)} {it : Operand} {ty : TypeId} {pos : String} {after : Array Edge} {b m since last ck : Nat} {seen : List Nat} (hf : Free h n)
    (hw : wantedA ops ⟨some d, .next it false, ty, pos, after, none⟩ (frameV vs) = true) (hok : okOper P.globals.size ⟨some d, .next it false, ty, pos, after, none⟩ = true) (hit : evalV vs it = .pointer (some ⟨b, 0, none⟩)) (hb : h.get b = some (.miter (some m) since seen last)) (hm : h.get m = some (.map (mapE K V L) ck))
    (hold : ∀ x ∈ L, x.2.2 < since) (hsl : since ≤ last) [z : SetL vs d (.tuple #[.bool false]) vs']
    (k1 : (∀ x ∈ L, x.2.2 ∈ seen) → SW P ops Q rest vs' h n)
    (k2 : ∀ x ∈ L, x.2.2 ∉ seen → ∀ h2, SubBut h h2 [b] → h2.get b = some (.miter (some m) since (seen ++ [x.2.2]) ck) → Free h2 n → SW P ops Q rest (setV vs (some d) (.tuple #[.bool true, K x.1, V x.2.1])) h2 n) :
    SW P ops Q (⟨some d, .next it false, ty, pos, after, none⟩ :: rest) vs h n := by
  refine ⟨?_⟩
  simp only [seqW, opW, hw, if_true, frameV_eval]
  refine ⟨hok, ?_⟩
  have hc : calmE P ⟨some d, .next it false, ty, pos, after, none⟩ (evalV vs) h = none := rfl
  have ha : actE P ⟨some d, .next it false, ty, pos, after, none⟩ (evalV vs) h n = none := by
    show nextE (evalV vs it) false h n = none
    rw [hit]; rfl
  rw [hc, ha]
  simp only
  have hall : (((mapE K V L).all fun e => decide (e.born < since)) && decide (since ≤ last)) = true := by
    rw [Bool.and_eq_true, List.all_eq_true]
    refine ⟨?_, by simpa using hsl⟩
    intro e he
    obtain ⟨x, hx, rfl⟩ := List.mem_map.1 he
    simpa using hold x hx
  refine ⟨it, _, rfl, by rw [hit]; simp only [nextAnyE, hb, hm]; rw [if_pos hall], ?_⟩
  intro y hy
  by_cases hl : ((mapE K V L).filter fun e => !seen.contains e.born).isEmpty = true
  · rw [hl] at hy
    simp only [if_true, List.mem_singleton] at hy
    subst hy
    simp only [resW, frameV_put]
    have hs : ∀ x ∈ L, x.2.2 ∈ seen := by
      intro x hx
      rw [List.isEmpty_iff, List.filter_eq_nil_iff] at hl
      have := hl { key := K x.1, val := V x.2.1, born := x.2.2 } (List.mem_map.2 ⟨x, hx, rfl⟩)
      simpa using this
    rw [show setV vs (some d) (.tuple #[.bool false]) = vs' from z.eq]
    exact (k1 hs).run
  · rw [Bool.not_eq_true] at hl
    rw [hl] at hy
    simp only [Bool.false_eq_true, if_false] at hy
    obtain ⟨e, he, rfl⟩ := List.mem_map.1 hy
    obtain ⟨he1, he2⟩ := List.mem_filter.1 he
    obtain ⟨x, hx, rfl⟩ := List.mem_map.1 he1
    simp only [resW, frameV_put]
    exact (k2 x hx (by simpa using he2) _ (.set _ _ _) (Trie.get_set_same _ _ _) (hf.setAt hb)).run
end
/-! What nobody changes. -/
def Keeps (h h' : Heap) : Prop := ∀ b cs ci, h.get b = some (.cells cs false ci) → h'.get b = some (.cells cs false ci)
theorem Keeps.refl (h : Heap) : Keeps h h := fun _ _ _ e => e
theorem Keeps.trans {h h1 h2 : Heap} (a : Keeps h h1) (b : Keeps h1 h2) : Keeps h h2 := fun x cs ci e => b x cs ci (a x cs ci e)
theorem Keeps.sub {h h' : Heap} (s : h.sub h') : Keeps h h' := fun b cs ci e => s b _ e
theorem Keeps.of0 {h h' : Heap} (s : SubBut h h' []) : Keeps h h' := .sub s.sub
/-- The blocks that turn are somebody's. -/
def Ours (h : Heap) (S : List Nat) : Prop := ∀ b ∈ S, ∀ cs ci, h.get b ≠ some (.cells cs false ci)
theorem Keeps.of {h h' : Heap} {S : List Nat} (s : SubBut h h' S) (o : Ours h S) : Keeps h h' := fun b cs ci e => s b _ (fun hm => o b hm cs ci e) e
theorem Keeps.own {h h' : Heap} {b : Nat} {o : AObj} (s : SubBut h h' [b]) (e : h.get b = some o) (he : o.excl = true) : Keeps h h' := .of s fun c hc cs ci e2 => by
  rw [List.mem_singleton] at hc
  subst hc
  rw [e] at e2; cases e2; cases he
theorem Ours.nil (h : Heap) : Ours h [] := fun b hb => by cases hb
theorem Ours.cons {h : Heap} {b : Nat} {o : AObj} {S : List Nat} (e : h.get b = some o) (he : o.excl = true) (r : Ours h S) : Ours h (b :: S) := fun c hc cs ci e2 => by
  rcases List.mem_cons.1 hc with rfl | hc
  · rw [e] at e2; cases e2; cases he
  · exact r c hc cs ci e2
/-- A slice that reads as a list, of which nothing is ever changed. -/
def FRow {α : Type} (E : Enc α) (h : Heap) (v : Value) (xs : List α) : Prop :=
  (xs = [] ∧ (v = .slice none 0 0 ∨ ∃ b o cap, v = .slice (some ⟨b, o, none⟩) 0 cap)) ∨
  ∃ (b o cap : Nat) (cs : List Value) (ci : CI), v = .slice (some ⟨b, o, none⟩) xs.length cap ∧ xs.length ≤ cap ∧ h.get b = some (.cells cs false ci) ∧ (cs.drop o).take (E.k * xs.length) = E.row xs ∧ o + E.k * xs.length ≤ cs.length
section
variable {α : Type} {E : Enc α} {h h' h0 : Heap} {v : Value} {xs : List α} {n : Nat} {e : TypeId} {S : List Nat}
theorem FRow.is (q : FRow E h v xs) : IsRow E h v xs := by
  rcases q with q | ⟨b, o, cap, cs, ci, h1, h2, h3, h4, h5⟩
  · exact .inl q
  · exact .inr ⟨b, o, cap, cs, false, ci, h1, h2, h3, h4, h5⟩
theorem FRow.keep (q : FRow E h v xs) (k : Keeps h h') : FRow E h' v xs := by
  rcases q with q | ⟨b, o, cap, cs, ci, h1, h2, h3, h4, h5⟩
  · exact .inl q
  · exact .inr ⟨b, o, cap, cs, ci, h1, h2, k _ _ _ h3, h4, h5⟩
theorem FRow.slice (q : FRow E h v xs) : ∃ a cap, v = .slice a xs.length cap := q.is.slice
theorem FRow.nil : FRow E h (.slice none 0 0) [] := .inl ⟨rfl, .inl rfl⟩
theorem OwnRow.has (q : OwnRow E e h0 h v xs) : ∀ c ∈ blkOf v, ∃ o, h.get c = some o := by
  intro b hb
  rcases q with ⟨rfl, rfl | ⟨b', o, rfl⟩⟩ | ⟨b', cap, ci', rfl, h1, _⟩
  · simp [blkOf] at hb
  · simp [blkOf] at hb
  · simp only [blkOf] at hb
    split at hb
    · simp at hb
    · rw [List.mem_singleton] at hb
      subst hb
      exact ⟨_, h1⟩
theorem OwnRow.apart {β : Type} {E' : Enc β} {e' : TypeId} {g : Heap} {v' : Value} {ys : List β} (q : OwnRow E e h0 h v xs) (q' : OwnRow E' e' h g v' ys) : ∀ c ∈ blkOf v', c ∉ blkOf v := fun c hc hm => by
  obtain ⟨o, ho⟩ := q.has c hm
  have := q'.blk c hc
  rw [ho] at this; cases this
theorem OwnRow.ours (q : OwnRow E e h0 h v xs) : Ours h (blkOf v) := by
  intro b hb cs ci hc
  rcases q with ⟨rfl, rfl | ⟨b', o, rfl⟩⟩ | ⟨b', cap, ci', rfl, h1, _⟩
  · simp [blkOf] at hb
  · simp [blkOf] at hb
  · simp only [blkOf] at hb
    split at hb
    · simp at hb
    · rw [List.mem_singleton] at hb
      subst hb
      rw [h1] at hc; cases hc
end
/-- A heap in which what was owned may be nobody's. -/
def Heap.weak (h'' h' : Heap) : Prop := ∀ b o, h''.get b = some o → h'.get b = some o ∨ ∃ cs ci, h'.get b = some (.cells cs true ci) ∧ o = .cells cs false ci
theorem Heap.weak.refl (h : Heap) : h.weak h := fun _ _ e => .inl e
theorem Rel.weak {P : Program} {μ : Mu} {h h' : Heap} {n : Nat} {w : World} (r : Rel P μ h n w) (s : h'.weak h) : Rel P μ h' n w := by
  refine ⟨?_, ?_, r.bound, r.glob⟩
  · intro b o e
    rcases s b o e with e1 | ⟨cs, ci, e1, rfl⟩
    · exact r.obj b o e1
    · obtain ⟨m, x, f1, f2, f3⟩ := r.obj b _ e1
      refine ⟨m, x, f1, f2, ?_⟩
      cases x with
      | cells c el fr =>
        obtain ⟨g1, g2, g3, g4, g5⟩ := f3
        exact ⟨g1, g2, g3, fun q => (by cases q), g5⟩
      | _ => exact f3.elim
  · intro b b' o o' m m' e1 e2 e3 e4 e5 e6
    have f1 : h.get b = some o := by
      rcases s b o e1 with q | ⟨cs, ci, q, rfl⟩
      · exact q
      · cases e2
    obtain ⟨o2, f2⟩ : ∃ o2, h.get b' = some o2 := by
      rcases s b' o' e4 with q | ⟨cs, ci, q, _⟩
      · exact ⟨_, q⟩
      · exact ⟨_, q⟩
    exact r.sep b b' o o2 m m' f1 e2 e3 f2 e5 e6
theorem Grow.weak {μ μ' : Mu} {h h' h'' : Heap} {w w' : World} (g : Grow μ h w μ' h' w') (s : h''.weak h') : Grow μ h w μ' h'' w' := by
  refine ⟨g.le, g.size, g.os, g.tape, g.output, g.kept, ?_⟩
  intro b' o' m' e1 e2 e3 e4
  rcases s b' o' e1 with q | ⟨cs, ci, q, rfl⟩
  · exact g.orig b' o' m' q e2 e3 e4
  · cases e2
theorem ACall.weaken {P : Program} {f : FuncId} {args : Array Value} {h : Heap} {n : Nat} {Q Q' : AEnd → Heap → Nat → Prop} (c : ACall P f args h n Q)
    (hq : ∀ r h' n', n ≤ n' → (∀ b, n' ≤ b → h'.get b = none) → Q r h' n' → ∃ h'', h''.weak h' ∧ Q' r h'' n') : ACall P f args h n Q' := by
  intro μ args' w ha hr
  refine (c μ args' w ha hr).mono ?_
  rintro e w' ⟨μ', h', n', r, he, hr', hg, hn, q⟩
  obtain ⟨h'', hs, q'⟩ := hq r h' n' hn (fun b hb => hr'.below hb) q
  exact ⟨μ', h'', n', r, he, hr'.weak hs, hg.weak hs, hn, q'⟩
/-- Blocks become nobody's. -/
def freeze (h : Heap) (b : Nat) : Heap := match h.get b with
  | some (.cells cs _ ci) => h.set b (.cells cs false ci)
  | _ => h
theorem freeze_weak (h : Heap) (b : Nat) : (freeze h b).weak h := by
  unfold freeze
  split
  · rename_i cs own ci hb
    intro c o e
    rw [Trie.get_set] at e
    split at e
    · rename_i hc
      subst hc
      cases e
      cases own with
      | true => exact .inr ⟨cs, ci, hb, rfl⟩
      | false => exact .inl hb
    · exact .inl e
  · exact .refl h
theorem freeze_get {h : Heap} {b : Nat} {cs : List Value} {own : Bool} {ci : CI} (hb : h.get b = some (.cells cs own ci)) : (freeze h b).get b = some (.cells cs false ci) := by
  unfold freeze; rw [hb]; exact Trie.get_set_same _ _ _
theorem freeze_ne {h : Heap} {b c : Nat} (hc : c ≠ b) : (freeze h b).get c = h.get c := by
  unfold freeze
  split
  · rw [Trie.get_set, if_neg hc]
  · rfl
theorem freeze_keeps (h : Heap) (b : Nat) : Keeps h (freeze h b) := fun c cs ci e => by
  by_cases hc : c = b
  · subst hc; exact freeze_get e
  · rw [freeze_ne hc]; exact e
/-- A row's block becomes nobody's. -/
theorem OwnRow.freeze {α : Type} {E : Enc α} {e : TypeId} {h0 h : Heap} {v : Value} {xs : List α} (q : OwnRow E e h0 h v xs) : ∃ h2, h2.weak h ∧ FRow E h2 v xs ∧ Keeps h h2 ∧ SubBut h h2 (blkOf v) := by
  rcases q with ⟨rfl, rfl | ⟨b, o, rfl⟩⟩ | ⟨b, cap, ci, rfl, h1, _, _, ⟨hl, hc⟩, _⟩
  · exact ⟨h, .refl h, .nil, .refl h, .refl h _⟩
  · exact ⟨h, .refl h, .inl ⟨rfl, .inr ⟨b, o, 0, rfl⟩⟩, .refl h, .refl h _⟩
  · refine ⟨Go.Abs.freeze h b, freeze_weak h b, .inr ⟨b, 0, cap, _, ci, rfl, hc, freeze_get h1, ?_, ?_⟩, freeze_keeps h b, ?_⟩
    · rw [List.drop_zero, ← E.row_length, List.take_length]
    · rw [E.row_length]; omega
    · intro c o hc2 e2
      rw [freeze_ne]
      · exact e2
      · intro e
        subst e
        have hne : xs.length ≠ 0 := by omega
        exact hc2 (by simp only [blkOf, if_neg hne, List.mem_singleton])
end Go.Abs
namespace Go.Proofs
open Go.Shelf
def Tryd.laysValid_ren : Go.Shelf.Ren := ⟨fun | 196 => 87 | 259 => 94 | n => n, fun | 9 => 9 | 4 => 4 | 3 => 3 | 5 => 5 | 12 => 12 | 119 => 149 | 0 => 0 | 46 => 119 | 139 => 152 | 138 => 151 | 53 => 51 | n => n, fun | 3 => 0 | 4 => 1 | n => n⟩
theorem Tryd.laysValid : Go.Proofs.Lays.n196 Tryd.prog Tryd.laysValid_ren := {
  mixed := by kernel_rfl
  f196 := Tryd.func87.trans (congrArg some (by kernel_rfl))
  f259 := Tryd.func94.trans (congrArg some (by kernel_rfl))
  t0 := Tryd.underlying0
  a0 := Tryd.isAgg0
  z0 := Tryd.sizeOf0
  v0 := Tryd.zeroValue0
  t3 := Tryd.underlying3
  a3 := Tryd.isAgg3
  z3 := Tryd.sizeOf3
  v3 := Tryd.zeroValue3
  t4 := Tryd.underlying4
  a4 := Tryd.isAgg4
  z4 := Tryd.sizeOf4
  v4 := Tryd.zeroValue4
  t5 := Tryd.underlying5
  a5 := Tryd.isAgg5
  z5 := Tryd.sizeOf5
  v5 := Tryd.zeroValue5
  t9 := Tryd.underlying9
  a9 := Tryd.isAgg9
  z9 := Tryd.sizeOf9
  v9 := Tryd.zeroValue9
  t12 := Tryd.underlying12
  a12 := Tryd.isAgg12
  z12 := Tryd.sizeOf12
  v12 := Tryd.zeroValue12
  t46 := Tryd.underlying119
  a46 := Tryd.isAgg119
  z46 := Tryd.sizeOf119
  v46 := Tryd.zeroValue119
  t53 := Tryd.underlying51
  a53 := Tryd.isAgg51
  z53 := Tryd.sizeOf51
  v53 := Tryd.zeroValue51
  t119 := Tryd.underlying149
  a119 := Tryd.isAgg149
  z119 := Tryd.sizeOf149
  t138 := Tryd.underlying151
  a138 := Tryd.isAgg151
  z138 := Tryd.sizeOf151
  v138 := Tryd.zeroValue151
  t139 := Tryd.underlying152
  a139 := Tryd.isAgg152
  z139 := Tryd.sizeOf152
  v139 := Tryd.zeroValue152
  g3 := by kernel_rfl
  g4 := by kernel_rfl }
end Go.Proofs
namespace Go.Abs
open Go
/-- What a text's bytes decode to: rune and width, one by one. -/
def decsF : Nat → List UInt8 → List (Nat × Nat)
  | 0, _ => []
  | f + 1, l => if l = [] then [] else Lib.decodeL l :: decsF f (l.drop (Lib.decodeL l).2)
def decs (l : List UInt8) : List (Nat × Nat) := decsF l.length l
theorem decsF_fuel : ∀ (n m : Nat) (l : List UInt8), l.length ≤ n → l.length ≤ m → decsF n l = decsF m l
  | 0, m, l, hn, _ => by
    have : l = [] := List.eq_nil_of_length_eq_zero (by omega)
    subst this
    cases m <;> simp [decsF]
  | n + 1, 0, l, _, hm => by
    have : l = [] := List.eq_nil_of_length_eq_zero (by omega)
    subst this
    simp [decsF]
  | n + 1, m + 1, l, hn, hm => by
    unfold decsF
    by_cases hne : l = []
    · simp [hne]
    · have hw := Lib.decodeL_width l
      have hl : 0 < l.length := List.length_pos_iff.2 hne
      rw [if_neg hne, if_neg hne, decsF_fuel n m _ (by rw [List.length_drop]; omega) (by rw [List.length_drop]; omega)]
theorem decs_nil : decs [] = [] := rfl
theorem decs_step (l : List UInt8) (hne : l ≠ []) : decs l = Lib.decodeL l :: decs (l.drop (Lib.decodeL l).2) := by
  have hl : 0 < l.length := List.length_pos_iff.2 hne
  have hw := Lib.decodeL_width l
  obtain ⟨n, hn⟩ : ∃ n, l.length = n + 1 := ⟨l.length - 1, by omega⟩
  unfold decs
  rw [hn]
  show (if l = [] then [] else _) = _
  rw [if_neg hne, decsF_fuel n _ _ (by rw [List.length_drop]; omega) (Nat.le_refl _)]
theorem validD_decs : ∀ (n : Nat) (l : List UInt8), l.length ≤ n → Lib.validD l = (decs l).all fun d => d != (65533, 1)
  | 0, l, hn => by
    have : l = [] := List.eq_nil_of_length_eq_zero (by omega)
    subst this
    rfl
  | n + 1, l, hn => by
    by_cases hne : l = []
    · subst hne; rfl
    · have hl : 0 < l.length := List.length_pos_iff.2 hne
      have hw := Lib.decodeL_width l
      rw [Lib.validD_step l hne, decs_step l hne, List.all_cons, ← validD_decs n _ (by rw [List.length_drop]; omega)]
      generalize Lib.decodeL l = d
      obtain ⟨a, b⟩ := d
      by_cases h : a = 65533 ∧ b = 1
      · rw [if_pos h]; obtain ⟨rfl, rfl⟩ := h; rfl
      · rw [if_neg h]
        have : ((a, b) != (65533, 1)) = true := by
          simp only [bne_iff_ne, ne_eq, Prod.mk.injEq]; exact h
        rw [this]; rfl
/-- How far a step goes. -/
theorem decodeL_le (l : List UInt8) (hne : l ≠ []) : (Lib.decodeL l).2 ≤ l.length := by
  unfold Lib.decodeL
  have hl : 0 < l.length := List.length_pos_iff.2 hne
  rw [Lib.decode_N]
  simp only [Nat.sub_zero]
  generalize (l.getD 0 0).toNat = b0
  unfold Lib.decodeN
  repeat' split
  all_goals simp_all
  all_goals omega
theorem decode_step (s : ByteArray) (p : Nat) (hp : p < s.data.toList.length) :
    decs (s.data.toList.drop p) = Utf8.decode s p :: decs (s.data.toList.drop (p + (Utf8.decode s p).2)) ∧ p + (Utf8.decode s p).2 ≤ s.data.toList.length ∧ 1 ≤ (Utf8.decode s p).2 := by
  have hne : s.data.toList.drop p ≠ [] := by
    intro h
    have := congrArg List.length h
    rw [List.length_drop] at this
    simp only [List.length_nil] at this
    omega
  have h1 := decs_step _ hne
  have h2 := decodeL_le _ hne
  have h3 := Lib.decodeL_width (s.data.toList.drop p)
  rw [Lib.decodeL_drop, List.drop_drop] at h1
  rw [Lib.decodeL_drop, List.length_drop] at h2
  rw [Lib.decodeL_drop] at h3
  exact ⟨h1, by omega, by omega⟩
/-- A rune that may stand in a value. -/
def okD (d : Nat × Nat) : Bool := d != (65533, 1) && decide (32 ≤ d.1) && d.1 != 127
def mayValueL (l : List UInt8) : Bool := (decs l).all okD && decide (1 ≤ (decs l).length) && decide ((decs l).length ≤ 64)
def mayValueB (s : ByteArray) : Bool := mayValueL s.data.toList
/-- Between the two runs over a value: the runes that are looked at. -/
def okC (d : Nat × Nat) : Bool := decide (32 ≤ d.1) && d.1 != 127
theorem okD_eq (d : Nat × Nat) : okD d = (okC d && d != (65533, 1)) := by
  unfold okD okC
  cases decide (32 ≤ d.1) <;> cases (d.1 != 127) <;> cases (d != (65533, 1)) <;> rfl
theorem all_okD (l : List (Nat × Nat)) : l.all okD = (l.all okC && l.all fun d => d != (65533, 1)) := by
  induction l with
  | nil => rfl
  | cons d l ih => simp only [List.all_cons, ih, okD_eq]; cases okC d <;> cases (d != (65533, 1)) <;> cases l.all okC <;> rfl
theorem mv_long {l : List UInt8} {ds r : List (Nat × Nat)} {d : Nat × Nat} (h : decs l = ds ++ d :: r) (hl : 64 ≤ ds.length) : mayValueL l = false := by
  unfold mayValueL
  rw [show decide ((decs l).length ≤ 64) = false by rw [h]; simp; omega, Bool.and_false]
theorem mv_bad {l : List UInt8} {ds r : List (Nat × Nat)} {d : Nat × Nat} (h : decs l = ds ++ d :: r) (hd : okC d = false) : mayValueL l = false := by
  unfold mayValueL
  rw [all_okD, h, List.all_append, List.all_cons, hd]
  simp
theorem mv_end {l : List UInt8} {ds : List (Nat × Nat)} (h : decs l = ds) (ho : ds.all okC = true) (hl : ds.length ≤ 64) : mayValueL l = (decide (0 < ds.length) && Lib.validD l) := by
  unfold mayValueL
  rw [all_okD, h, ho, validD_decs _ _ (Nat.le_refl _), h, Bool.true_and, decide_eq_true hl, Bool.and_true, Bool.and_comm]
  rfl
end Go.Abs
namespace Go.Proofs.YtkpaklofdkjinaaDoor
open Go Go.Abs
set_option maxRecDepth 100000
def plans : Nat → Nat → Option (List Nat)
  | 3, 22 => some (List.range 36)
  | 4, 15 => some (List.range 17)
  | 4, 37 => some (List.range 54)
  | 5, 13 => some [0, 1, 2, 3, 4, 5, 6, 7, 8, 9, 10, 12, 13, 14, 15, 16, 11, 17]
  | 5, 15 => some [0, 1, 2, 3, 4, 5, 6, 7, 8, 9, 10, 11, 12, 13, 14, 15, 16, 17, 18, 19, 20, 21, 22, 23, 24, 25, 26, 27, 28, 29, 30, 31, 32, 33, 34, 35, 36, 37, 38, 39, 40, 41, 42, 43, 44, 45, 46, 47, 48, 49, 50, 51, 52, 53, 54, 55, 57, 58, 59, 60, 61, 56, 62, 63, 64]
  | 5, 21 => some (List.range 14)
  | 5, 23 => some (List.range 17)
  | 5, 33 => some (List.range 32)
  | 9, 5 => some (List.range 26)
  | 10, 6 => some (List.range 78)
  | 12, 7 => some (List.range 15)
  | 13, 8 => some (List.range 9)
  | 13, 10 => some (List.range 11)
  | 13, 11 => some (List.range 8)
  | 13, 18 => some [0, 1, 2, 3, 4, 6, 5, 7, 8, 9, 10, 11, 12]
  | 15, 7 => some (List.range 8)
  | 15, 8 => some [0, 1, 2, 3, 4, 6, 7, 5, 8, 9, 10, 11, 12, 13]
  | 16, 6 => some (List.range 24)
  | 17, 6 => some (List.range 9)
  | 18, 3 => some (List.range 12)
  | 19, 4 => some (List.range 6)
  | 20, 3 => some [0, 1, 2, 3, 5, 6, 7, 8, 4, 9, 10, 11, 12]
  | 22, 3 => some (List.range 21)
  | 23, 9 => some (List.range 12)
  | 23, 19 => some [0, 1, 2, 3, 4, 5, 6, 7, 9, 10, 11, 14, 8, 12, 13, 15, 16, 17, 18]
  | 24, 9 => some (List.range 27)
  | 28, 1 => some [0, 1, 2, 3, 5, 6, 7, 8, 4, 9, 10, 11, 12]
  | 30, 2 => some (List.range 8)
  | 30, 15 => some [0, 1, 2, 3, 4, 5, 6, 8, 7, 9, 10]
  | 32, 6 => some (List.range 10)
  | 35, 5 => some [0, 1, 2, 4, 5, 3, 6, 7]
  | 41, 6 => some (List.range 9)
  | 54, 4 => some (List.range 25)
  | 58, 6 => some (List.range 11)
  | 58, 11 => some (List.range 11)
  | 62, 4 => some (List.range 19)
  | 64, 17 => some (List.range 17)
  | 72, 4 => some (List.range 12)
  | 75, 4 => some (List.range 17)
  | 75, 6 => some (List.range 18)
  | 76, 10 => some (List.range 20)
  | 77, 10 => some (List.range 20)
  | 79, 3 => some (List.range 16)
  | 80, 5 => some (List.range 18)
  | 80, 11 => some (List.range 18)
  | 80, 16 => some (List.range 13)
  | 80, 17 => some (List.range 18)
  | 80, 22 => some (List.range 13)
  | 80, 23 => some (List.range 18)
  | 81, 1 => some (List.range 16)
  | 81, 3 => some (List.range 17)
  | 81, 5 => some (List.range 16)
  | 81, 8 => some (List.range 16)
  | 82, 1 => some (List.range 16)
  | 82, 3 => some (List.range 16)
  | 82, 5 => some (List.range 17)
  | 82, 8 => some (List.range 16)
  | 82, 10 => some (List.range 16)
  | 82, 13 => some (List.range 16)
  | 82, 15 => some (List.range 17)
  | 82, 18 => some (List.range 16)
  | 82, 21 => some (List.range 16)
  | 87, 7 => some [0, 1, 2, 3, 4, 6, 7, 5, 8, 9, 10, 11, 12]
  | 87, 9 => some [0, 1, 2, 3, 4, 6, 7, 10, 11, 13, 14, 5, 8, 9, 12, 15, 16, 17, 18, 19, 20]
  | 87, 17 => some (List.range 17)
  | 87, 21 => some (List.range 27)
  | 87, 25 => some (List.range 37)
  | 89, 3 => some (List.range 22)
  | 89, 5 => some (List.range 16)
  | 89, 6 => some (List.range 24)
  | 91, 1 => some (List.range 10)
  | 91, 2 => some (List.range 10)
  | 91, 3 => some (List.range 10)
  | 94, 1 => some (List.range 19)
  | 94, 2 => some (List.range 39)
  | 98, 1 => some (List.range 11)
  | _, _ => none
def accs : List (List Nat) := [[128, 191], [160, 191], [128, 159], [144, 191], [128, 143], [0, 0], [0, 0], [0, 0], [0, 0], [0, 0], [0, 0], [0, 0], [0, 0], [0, 0], [0, 0], [0, 0]]
def laidL : Laid := [(0, .u8, Go.Pinned.utf8FirstZ), (1, .u8, accs.flatten)]
def planF (P : Program) (plans : Nat → Nat → Option (List Nat)) (x : Func × Nat) : Bool := match x.1.body with
  | some c => (drawn c).all (planFits P (plans x.2))
  | none => true
def fns (P : Program) : List (Func × Nat) := P.funcs.toList.zipIdx
theorem part0 : (((fns Tryd.prog).drop 0).take 10).all (planF Tryd.prog plans) = true := by kernel_rfl
theorem part10 : (((fns Tryd.prog).drop 10).take 1).all (planF Tryd.prog plans) = true := by kernel_rfl
theorem part11 : (((fns Tryd.prog).drop 11).take 20).all (planF Tryd.prog plans) = true := by kernel_rfl
theorem part31 : (((fns Tryd.prog).drop 31).take 33).all (planF Tryd.prog plans) = true := by kernel_rfl
theorem part64 : (((fns Tryd.prog).drop 64).take 12).all (planF Tryd.prog plans) = true := by kernel_rfl
theorem part76 : (((fns Tryd.prog).drop 76).take 6).all (planF Tryd.prog plans) = true := by kernel_rfl
theorem part82 : (((fns Tryd.prog).drop 82).take 1).all (planF Tryd.prog plans) = true := by kernel_rfl
theorem part83 : (((fns Tryd.prog).drop 83).take 5).all (planF Tryd.prog plans) = true := by kernel_rfl
theorem part88 : (((fns Tryd.prog).drop 88).take 35).all (planF Tryd.prog plans) = true := by kernel_rfl
theorem part_end : (fns Tryd.prog).drop 123 = [] := by kernel_rfl
theorem all_cut {α : Type} {p : α → Bool} {l : List α} {a b : Nat} (h : ((l.drop a).take b).all p = true) (h2 : (l.drop (a + b)).all p = true) : (l.drop a).all p = true := by
  rw [← List.take_append_drop b (l.drop a), List.all_append, h, List.drop_drop, h2]; rfl
theorem prog_names : (Tryd.prog.follows .mixedOrders && Tryd.prog.funcs.toList.all fun fn => !(fn.name == "runtime.NumGoroutine")) = true := by kernel_rfl
theorem prog_facts : progB Tryd.prog plans = true := by
  have h : ((fns Tryd.prog).drop 0).all (planF Tryd.prog plans) = true := (all_cut part0 (all_cut part10 (all_cut part11 (all_cut part31 (all_cut part64 (all_cut part76 (all_cut part82 (all_cut part83 (all_cut part88 (by rw [part_end]; rfl))))))))))
  unfold progB
  rw [prog_names, Bool.true_and]
  exact h
theorem pok : POk Tryd.prog := (progB_ok prog_facts).1
theorem plans_ok : PlansOk Tryd.prog plans := (progB_ok prog_facts).2
theorem laidL_lt : (laidL.all fun x => decide (x.1 < Tryd.prog.globals.size)) = true := by kernel_rfl
theorem laidW_of {W : World} (h : laidMet Tryd.prog Rows.fenceApartRow.laid W) : LaidW W laidL := by
  have h0 : Lib.VarReads Tryd.prog W "unicode/utf8.first" Rows.laid_unicode_utf8_first := Lib.laidMet.reads h (by unfold Rows.fenceApartRow; simp)
  have h1 : Lib.VarReads Tryd.prog W "unicode/utf8.acceptRanges" Rows.laid_unicode_utf8_acceptRanges := Lib.laidMet.reads h (by unfold Rows.fenceApartRow; simp)
  intro x hx
  simp only [laidL, List.mem_cons, List.not_mem_nil, or_false] at hx
  rcases hx with rfl | rfl
  · exact laid_tab (t := 149) (e := 5) (m := 256) (by kernel_rfl) (by kernel_rfl) (by kernel_rfl) (by kernel_rfl) (by kernel_rfl) (by kernel_rfl) h0
  · refine laid_structs (t := 152) (e := 151) (m := 16) (fs := #[{ name := "lo", type := 5, offset := 0, embedded := false, tag := "", pkgPath := "unicode/utf8", byteOffset := 0 }, { name := "hi", type := 5, offset := 1, embedded := false, tag := "", pkgPath := "unicode/utf8", byteOffset := 1 }])
      (by kernel_rfl) (by kernel_rfl) (by kernel_rfl) (by kernel_rfl) ?_ (by kernel_rfl) (by kernel_rfl) (by kernel_rfl) (by decide) h1
    intro i f hi
    match i, hi with
    | 0, hi => simp at hi; subst hi; exact ⟨by kernel_rfl, rfl, by kernel_rfl⟩
    | 1, hi => simp at hi; subst hi; exact ⟨by kernel_rfl, rfl, by kernel_rfl⟩
    | i + 2, hi => simp at hi
end Go.Proofs.YtkpaklofdkjinaaDoor
namespace Go.Proofs.YtkpaklofdkjinaaDoor
open Go Go.Abs
set_option maxRecDepth 100000
theorem bless_irrefl : ∀ a : List UInt8, Op.bytesLess a a = false
  | [] => rfl
  | x :: a => by simp [Op.bytesLess, bless_irrefl a]
theorem bless_trans : ∀ a b c : List UInt8, Op.bytesLess a b = true → Op.bytesLess b c = true → Op.bytesLess a c = true
  | _, _, [], _, h => by rename_i b _; cases b <;> simp [Op.bytesLess] at h
  | _, [], _ :: _, h, _ => by rename_i a _ _ _; cases a <;> simp [Op.bytesLess] at h
  | [], _ :: _, _ :: _, _, _ => by simp [Op.bytesLess]
  | x :: a, y :: b, z :: c, h, k => by
    simp only [Op.bytesLess, Bool.or_eq_true, Bool.and_eq_true, decide_eq_true_eq, beq_iff_eq] at *
    rcases h with h | ⟨rfl, h⟩
    · rcases k with k | ⟨rfl, k⟩
      · exact .inl (UInt8.lt_trans h k)
      · exact .inl h
    · rcases k with k | ⟨rfl, k⟩
      · exact .inl k
      · exact .inr ⟨rfl, bless_trans a b c h k⟩
theorem bless_tri : ∀ a b : List UInt8, Op.bytesLess a b = false → a ≠ b → Op.bytesLess b a = true
  | [], [], _, h => (h rfl).elim
  | [], _ :: _, h, _ => by simp [Op.bytesLess] at h
  | _ :: _, [], _, _ => by simp [Op.bytesLess]
  | x :: a, y :: b, h, k => by
    simp only [Op.bytesLess, Bool.or_eq_false_iff, Bool.and_eq_false_iff, decide_eq_false_iff_not, beq_eq_false_iff_ne, Bool.or_eq_true, Bool.and_eq_true, decide_eq_true_eq, beq_iff_eq] at *
    obtain ⟨h1, h2⟩ := h
    by_cases e : x = y
    · subst e
      rcases h2 with h2 | h2
      · exact (h2 rfl).elim
      · exact .inr ⟨rfl, bless_tri a b h2 (fun e => k (by rw [e]))⟩
    · left
      rw [UInt8.lt_iff_toNat_lt] at *
      have : x.toNat ≠ y.toNat := fun q => e (UInt8.toNat_inj.1 q)
      omega
def ltN (a b : ByteArray) : Prop := lessS a b = true
theorem ba_eq {a b : ByteArray} (h : a.data.toList = b.data.toList) : a = b := by
  apply ByteArray.ext; apply Array.ext'; exact h
theorem ltN_irrefl (a : ByteArray) : ¬ ltN a a := by unfold ltN lessS; rw [bless_irrefl]; simp
theorem ltN_trans {a b c : ByteArray} (h : ltN a b) (k : ltN b c) : ltN a c := bless_trans _ _ _ h k
theorem ltN_tri (a b : ByteArray) : ltN a b ∨ a = b ∨ ltN b a := by
  by_cases h : ltN a b
  · exact .inl h
  · by_cases e : a = b
    · exact .inr (.inl e)
    · exact .inr (.inr (bless_tri _ _ (by unfold ltN lessS at h; simpa using h) (fun q => e (ba_eq q))))
abbrev Pl := ByteArray × ByteArray
def ltP (x y : Pl) : Prop := ltN x.1 y.1 ∨ (x.1 = y.1 ∧ ltN x.2 y.2)
theorem ltP_irrefl (a : Pl) : ¬ ltP a a := fun h => h.elim (ltN_irrefl _) (fun h => ltN_irrefl _ h.2)
theorem ltP_trans {a b c : Pl} (h : ltP a b) (k : ltP b c) : ltP a c := by
  rcases h with h | ⟨h1, h2⟩
  · rcases k with k | ⟨k1, k2⟩
    · exact .inl (ltN_trans h k)
    · exact .inl (k1 ▸ h)
  · rcases k with k | ⟨k1, k2⟩
    · exact .inl (h1 ▸ k)
    · exact .inr ⟨h1.trans k1, ltN_trans h2 k2⟩
theorem ltP_tri (a b : Pl) : ltP a b ∨ a = b ∨ ltP b a := by
  rcases ltN_tri a.1 b.1 with h | h | h
  · exact .inl (.inl h)
  · rcases ltN_tri a.2 b.2 with k | k | k
    · exact .inl (.inr ⟨h, k⟩)
    · exact .inr (.inl (Prod.ext h k))
    · exact .inr (.inr (.inr ⟨h.symm, k⟩))
  · exact .inr (.inr (.inl h))
instance (a b : ByteArray) : Decidable (ltN a b) := inferInstanceAs (Decidable (lessS a b = true))
instance (a b : Pl) : Decidable (ltP a b) := inferInstanceAs (Decidable (_ ∨ _))
def Rising (l : List Pl) : Prop := l.Pairwise ltP
theorem Rising.eq : ∀ {a b : List Pl}, Rising a → Rising b → a.Perm b → a = b := by
  intro a b ha hb hp
  refine hp.eq_of_pairwise (le := fun x y => ltP x y ∨ x = y) ?_ (ha.imp .inl) (hb.imp .inl)
  intro x y _ _ h1 h2
  rcases h1 with h1 | h1
  · rcases h2 with h2 | h2
    · exact absurd (ltP_trans h1 h2) (ltP_irrefl x)
    · exact h2.symm
  · exact h1
end Go.Proofs.YtkpaklofdkjinaaDoor
namespace Go.Proofs.YtkpaklofdkjinaaDoor
open Go Go.Abs
set_option maxRecDepth 100000
set_option maxHeartbeats 2000000
def Laid0 (h : Heap) : Prop := ∃ c, (laidHeap c laidL).sub h
theorem Laid0.keep {h h' : Heap} (l : Laid0 h) (s : SubBut h h' []) : Laid0 h' := let ⟨c, q⟩ := l; ⟨c, Heap.sub_trans q s.sub⟩
theorem Laid0.sub {h h' : Heap} (l : Laid0 h) (s : h.sub h') : Laid0 h' := let ⟨c, q⟩ := l; ⟨c, Heap.sub_trans q s⟩
abbrev Lab := ByteArray × ByteArray
def encLab : Enc Lab := ⟨2, fun x => [.string x.1, .string x.2], fun _ => rfl, by decide⟩
theorem appLab : AppT Tryd.prog encLab 40 61 32 := ⟨by kernel_rfl, by kernel_rfl, by kernel_rfl, fun _ => rfl⟩
theorem boolNeq : ∀ x y : Bool, binE Tryd.prog .neq 4 false false (.bool x) (.bool y) = some (.bool (x != y)) := by
  intro x y; cases x <;> cases y <;> kernel_rfl
def letterB (c : Int) (first : Bool) : Bool := decide (97 ≤ c ∧ c ≤ 122 ∨ 65 ≤ c ∧ c ≤ 90 ∨ c = 95) || (decide (48 ≤ c ∧ c ≤ 57) && !first)
def mayNameB (s : ByteArray) : Bool := decide (1 ≤ s.data.toList.length ∧ s.data.toList.length ≤ 64) && (List.range s.data.toList.length).all fun i => letterB (bt s (i : Nat)) (decide (i = 0))
theorem all_range {n : Nat} {p : Nat → Bool} (h : ∀ i, i < n → p i = true) : (List.range n).all p = true := by
  rw [List.all_eq_true]
  intro i hi
  exact h i (List.mem_range.1 hi)
theorem all_range_false {n i : Nat} {p : Nat → Bool} (hi : i < n) (h : p i = false) : (List.range n).all p = false := by
  rw [List.all_eq_false]
  exact ⟨i, List.mem_range.2 hi, by simp [h]⟩
theorem bt0_pos {s : ByteArray} (h : ¬ s = ⟨#[]⟩) : 0 < s.data.toList.length := by
  rcases Nat.eq_zero_or_pos s.data.toList.length with e | e
  · exfalso; apply h; apply ByteArray.ext; apply Array.ext'
    exact List.eq_nil_of_length_eq_zero e
  · exact e
def okAt (ls : List Lab) (i : Nat) : Bool :=
  mayNameB (ls.getD i (⟨#[]⟩, ⟨#[]⟩)).1 && mayValueB (ls.getD i (⟨#[]⟩, ⟨#[]⟩)).2 &&
    (decide (i = 0) || !(lessS (ls.getD i (⟨#[]⟩, ⟨#[]⟩)).1 (ls.getD (i - 1) (⟨#[]⟩, ⟨#[]⟩)).1 || eqS (ls.getD i (⟨#[]⟩, ⟨#[]⟩)).1 (ls.getD (i - 1) (⟨#[]⟩, ⟨#[]⟩)).1))
def mayB (ls : List Lab) : Bool := decide (1 ≤ ls.length ∧ ls.length ≤ 16) && (List.range ls.length).all (okAt ls)
theorem getD_of {α : Type} {ls : List α} {i : Nat} {x d : α} (h : ls[i]? = some x) : ls.getD i d = x := by rw [List.getD_eq_getElem?_getD, h]; rfl
theorem okAt_of {ls : List Lab} {i : Nat} {x y : Lab} (hx : ls[i]? = some x) (hy : i ≠ 0 → ls[i - 1]? = some y) : okAt ls i = (mayNameB x.1 && mayValueB x.2 && (decide (i = 0) || !(lessS x.1 y.1 || eqS x.1 y.1))) := by
  unfold okAt
  rw [getD_of hx]
  by_cases h : i = 0
  · rw [decide_eq_true h, Bool.true_or, Bool.true_or]
  · rw [getD_of (hy h)]
theorem may_bad {ls : List Lab} {i : Nat} {x : Lab} (hx : ls[i]? = some x) (hb : mayNameB x.1 = false ∨ mayValueB x.2 = false) : mayB ls = false := by
  have hlt := (List.getElem?_eq_some_iff.1 hx).1
  unfold mayB
  rw [all_range_false hlt, Bool.and_false]
  unfold okAt
  rw [getD_of hx]
  rcases hb with h | h <;> rw [h] <;> simp
theorem may_row {ls : List Lab} {i : Nat} {x y : Lab} (hx : ls[i]? = some x) (h0 : i ≠ 0) (hy : ls[i - 1]? = some y) (hb : (lessS x.1 y.1 || eqS x.1 y.1) = true) : mayB ls = false := by
  have hlt := (List.getElem?_eq_some_iff.1 hx).1
  unfold mayB
  rw [all_range_false hlt, Bool.and_false]
  rw [okAt_of hx (fun _ => hy), hb, decide_eq_false h0]
  simp
theorem may_all {ls : List Lab} (h : ∀ i, i < ls.length → okAt ls i = true) : mayB ls = decide (1 ≤ ls.length ∧ ls.length ≤ 16) := by
  unfold mayB
  rw [all_range h, Bool.and_true]
theorem may_len {ls : List Lab} (h : ¬ (1 ≤ ls.length ∧ ls.length ≤ 16)) : mayB ls = false := by
  unfold mayB
  rw [decide_eq_false h]
  rfl
theorem okAt_yes {ls : List Lab} {i : Nat} {x : Lab} (hx : ls[i]? = some x) (h1 : mayNameB x.1 = true) (h2 : mayValueB x.2 = true) (h3 : i = 0 ∨ ∃ y, ls[i - 1]? = some y ∧ (lessS x.1 y.1 || eqS x.1 y.1) = false) : okAt ls i = true := by
  rcases h3 with h | ⟨y, hy, h⟩
  · rw [okAt_of (y := x) hx (fun q => (q h).elim), h1, h2, decide_eq_true h]; rfl
  · rw [okAt_of hx (fun _ => hy), h1, h2, h]; simp
abbrev Samp := Int × Int
def encSmp : Enc Samp := ⟨2, fun x => [.int .i64 x.1, .int .u64 x.2], fun _ => rfl, by decide⟩
theorem appSmp : AppT Tryd.prog encSmp 41 53 16 := ⟨by kernel_rfl, by kernel_rfl, by kernel_rfl, fun _ => rfl⟩
abbrev Ser := List Lab × List Samp
abbrev RSer := Value × Value
def encSer : Enc RSer := ⟨2, fun x => [x.1, x.2], fun _ => rfl, by decide⟩
def SerIs (h : Heap) (r : RSer) (s : Ser) : Prop := IsRow encLab h r.1 s.1 ∧ IsRow encSmp h r.2 s.2
def SersIs (h : Heap) (rs : List RSer) (ss : List Ser) : Prop := rs.length = ss.length ∧ ∀ (i : Nat) (r : RSer) (s : Ser), rs[i]? = some r → ss[i]? = some s → SerIs h r s
structure SersAt (h : Heap) (v : Value) (rs : List RSer) (ss : List Ser) : Prop where
  row : IsRow encSer h v rs
  is : SersIs h rs ss
theorem SersIs.at {h : Heap} {rs : List RSer} {ss : List Ser} {i : Nat} {r : RSer} (q : SersIs h rs ss) (hr : rs[i]? = some r) : ∃ s, ss[i]? = some s ∧ SerIs h r s := by
  have hi := (List.getElem?_eq_some_iff.1 hr).1
  rw [q.1] at hi
  have : ss[i]? = some ss[i] := List.getElem?_eq_getElem hi
  exact ⟨_, this, q.2 i r _ hr this⟩
theorem SerIs.keep {h h' : Heap} {r : RSer} {s : Ser} (q : SerIs h r s) (hs : SubBut h h' []) : SerIs h' r s := ⟨q.1.keep hs, q.2.keep hs⟩
theorem SersIs.keep {h h' : Heap} {rs : List RSer} {ss : List Ser} (q : SersIs h rs ss) (hs : SubBut h h' []) : SersIs h' rs ss := ⟨q.1, fun i r s a b => (q.2 i r s a b).keep hs⟩
def NoCells (h : Heap) (S : List Nat) : Prop := ∀ b ∈ S, ∀ cs own ci, h.get b ≠ some (.cells cs own ci)
theorem NoCells.nil (h : Heap) : NoCells h [] := fun b hb => by cases hb
theorem NoCells.cons {h : Heap} {b : Nat} {S : List Nat} {es : List MapEntry} {ck : Nat} (e : h.get b = some (.map es ck)) (r : NoCells h S) : NoCells h (b :: S) := fun c hc cs own ci e2 => by
  rcases List.mem_cons.1 hc with rfl | hc
  · rw [e] at e2; cases e2
  · exact r c hc cs own ci e2
theorem isRow_noc {α : Type} {E : Enc α} {h h' : Heap} {v : Value} {xs : List α} {S : List Nat} (q : IsRow E h v xs) (s : SubBut h h' S) (hS : NoCells h S) : IsRow E h' v xs := by
  rcases q with q | ⟨b, o, cap, cs, own, ci, h1, h2, h3, h4⟩
  · exact .inl q
  · exact .inr ⟨b, o, cap, cs, own, ci, h1, h2, s b _ (fun hm => hS b hm _ _ _ h3) h3, h4⟩
theorem SerIs.noc {h h' : Heap} {r : RSer} {s : Ser} {S : List Nat} (q : SerIs h r s) (hs : SubBut h h' S) (hS : NoCells h S) : SerIs h' r s := ⟨isRow_noc q.1 hs hS, isRow_noc q.2 hs hS⟩
theorem SersIs.noc {h h' : Heap} {rs : List RSer} {ss : List Ser} {S : List Nat} (q : SersIs h rs ss) (hs : SubBut h h' S) (hS : NoCells h S) : SersIs h' rs ss := ⟨q.1, fun i r s a b => (q.2 i r s a b).noc hs hS⟩
def FSer (h : Heap) (r : RSer) (s : Ser) : Prop := FRow encLab h r.1 s.1 ∧ FRow encSmp h r.2 s.2
def FSers (h : Heap) (rs : List RSer) (ss : List Ser) : Prop := rs.length = ss.length ∧ ∀ (i : Nat) (r : RSer) (s : Ser), rs[i]? = some r → ss[i]? = some s → FSer h r s
theorem FSer.is {h : Heap} {r : RSer} {s : Ser} (q : FSer h r s) : SerIs h r s := ⟨q.1.is, q.2.is⟩
theorem FSers.is {h : Heap} {rs : List RSer} {ss : List Ser} (q : FSers h rs ss) : SersIs h rs ss := ⟨q.1, fun i r s a b => (q.2 i r s a b).is⟩
theorem FSer.keep {h h' : Heap} {r : RSer} {s : Ser} (q : FSer h r s) (k : Keeps h h') : FSer h' r s := ⟨q.1.keep k, q.2.keep k⟩
theorem FSers.keep {h h' : Heap} {rs : List RSer} {ss : List Ser} (q : FSers h rs ss) (k : Keeps h h') : FSers h' rs ss := ⟨q.1, fun i r s a b => (q.2 i r s a b).keep k⟩
theorem FSers.at {h : Heap} {rs : List RSer} {ss : List Ser} {i : Nat} {r : RSer} (q : FSers h rs ss) (hr : rs[i]? = some r) : ∃ s, ss[i]? = some s ∧ FSer h r s := by
  have hi := (List.getElem?_eq_some_iff.1 hr).1
  rw [q.1] at hi
  have : ss[i]? = some ss[i] := List.getElem?_eq_getElem hi
  exact ⟨_, this, q.2 i r _ hr this⟩
structure Bat where
  ten : ByteArray
  clu : ByteArray
  epo : Int
  ser : List Ser
structure RBat where
  ten : ByteArray
  clu : ByteArray
  epo : Int
  ser : Value
def encBat : Enc RBat := ⟨4, fun x => [.string x.ten, .string x.clu, .int .i64 x.epo, x.ser], fun _ => rfl, by decide⟩
end Go.Proofs.YtkpaklofdkjinaaDoor
namespace Go.Proofs.YtkpaklofdkjinaaDoor
open Go Go.Abs Go.RowKit
set_option maxRecDepth 100000
set_option maxHeartbeats 2000000
theorem laid_get {h : Heap} (hl : Laid0 h) {b : Nat} {k : IntKind} {zs : List Nat} (c : ∀ c, (laidHeap c laidL).get b = some (.cells (rowOf k zs) false (c b))) : ∃ ci, h.get b = some (.cells (rowOf k zs) false ci) := by
  obtain ⟨d, hs⟩ := hl
  exact ⟨_, hs _ _ (c d)⟩
theorem laid_cell {μ : Mu} {h : Heap} {n : Nat} {w : World} (hr : Rel Tryd.prog μ h n w) {b : Nat} (hb : b < Tryd.prog.globals.size) {k : IntKind} {zs : List Nat} {ci : CI} (hg : h.get b = some (.cells (rowOf k zs) false ci)) {i z : Nat} (hz : zs[i]? = some z) :
    w.cell? ⟨b, i, none⟩ = some (.int k z) := by
  obtain ⟨m, x, h1, h2, h3⟩ := hr.obj b _ hg
  obtain ⟨m', e1, e2, e3⟩ := hr.glob b hb
  rw [h1] at e1
  cases e1
  cases x with
  | cells c el fr =>
    obtain ⟨g1, g2, g3, _⟩ := h3
    have hv : (rowOf k zs)[i]? = some (.int k z) := by simp [rowOf, hz]
    obtain ⟨v', q1, q2⟩ := g3 i _ hv
    rw [e3, Nat.zero_add] at q1
    have := q2.flat_eq rfl
    subst this
    rw [e2] at h2
    rw [cell_of_block h2]
    exact q1
  | _ => exact h3.elim
theorem first_get : ∀ c, c < 256 → Go.Pinned.utf8FirstZ[c]? = some (Lib.firstT c) := by
  intro c hc
  have h : ∀ c : Fin 256, Go.Pinned.utf8FirstZ[c.val]? = some (Lib.firstT c.val) := by decide
  exact h ⟨c, hc⟩
theorem acc_get : ∀ i, i < 16 → accs.flatten[2 * i]? = some (Lib.accLo i) ∧ accs.flatten[2 * i + 1]? = some (Lib.accHi i) := by
  intro i hi
  have h : ∀ i : Fin 16, accs.flatten[2 * i.val]? = some (Lib.accLo i.val) ∧ accs.flatten[2 * i.val + 1]? = some (Lib.accHi i.val) := by decide
  exact h ⟨i, hi⟩
theorem tabs_of {μ : Mu} {h : Heap} {n : Nat} {w : World} (hl : Laid0 h) (hr : Rel Tryd.prog μ h n w) : Lib.Utf8Tabs 0 1 w := by
  obtain ⟨c0, h0⟩ := laid_get hl (b := 0) (k := .u8) (zs := Go.Pinned.utf8FirstZ) (fun c => by kernel_rfl)
  obtain ⟨c1, h1⟩ := laid_get hl (b := 1) (k := .u8) (zs := accs.flatten) (fun c => by kernel_rfl)
  have hG : (1 : Nat) < Tryd.prog.globals.size := of_decide_eq_true (by kernel_rfl)
  refine ⟨fun c hc => laid_cell hr (by omega) h0 (first_get c hc), fun i hi => ⟨laid_cell hr hG h1 (acc_get i hi).1, laid_cell hr hG h1 (acc_get i hi).2⟩⟩
theorem l46_spec {h : Heap} {n : Nat} (s : ByteArray) (hl : Laid0 h) (hs : s.data.toList.length < 9223372036854775808) : Tells Tryd.prog 87 [.string s] h n (.bool (Lib.validD s.data.toList)) :=
  Tells.of_calls rfl rfl fun _ w hr => Any.utf8_ValidString Tryd.laysValid s w (by simp at hs; omega) (tabs_of hl hr)
end Go.Proofs.YtkpaklofdkjinaaDoor
namespace Go.Proofs.YtkpaklofdkjinaaDoor
open Go Go.Abs
set_option maxRecDepth 100000
def kindB (c : Int) : Int := if (97 ≤ c ∧ c ≤ 122) ∨ (65 ≤ c ∧ c ≤ 90) ∨ (48 ≤ c ∧ c ≤ 57) then 2 else if c = 45 ∨ c = 95 ∨ c = 46 then 2 else if c = 47 then 1 else 0
def tabL (b : Bool) : Tab := (List.range 256).map fun (c : Nat) => (86, [.int .u8 c, .bool b], .bool (letterB c b))
def tabK : Tab := (List.range 256).map fun (c : Nat) => (85, [.int .u8 c], .int .i64 (kindB c))
theorem tabL0_run (c : Nat → CI) : tabB Tryd.prog plans (tabOv [] []) (laidHeap c []) (tabL true) = true := by kernel_rfl
theorem tabL1_run (c : Nat → CI) : tabB Tryd.prog plans (tabOv [] []) (laidHeap c []) (tabL false) = true := by kernel_rfl
theorem tabK_run (c : Nat → CI) : tabB Tryd.prog plans (tabOv [] []) (laidHeap c []) tabK = true := by kernel_rfl
theorem tab_tells {f : FuncId} {args : List Value} {v : Value} {T : Tab} (ok : TabOk Tryd.prog [] T) (hm : (f, args, v) ∈ T) {h : Heap} {n : Nat} : Tells Tryd.prog f args h n v := by
  obtain ⟨t1, t2, t3⟩ := ok _ hm
  have := ACall.frame (P := Tryd.prog) (n := n) (h := h) (laidHeap_ro (fun _ => default) (L := []) rfl) (fun b o e => by cases e) t1 t2 (t3 (fun _ => default))
  exact this.mono fun _ h' _ hn _ ⟨a, b, _⟩ => ⟨h', Heap.sub_refl _, a, b, hn⟩
theorem l45_spec {h : Heap} {n : Nat} (c : Int) (b : Bool) (hc : 0 ≤ c ∧ c < 256) : Tells Tryd.prog 86 [.int .u8 c, .bool b] h n (.bool (letterB c b)) := by
  obtain ⟨k, rfl⟩ : ∃ k : Nat, c = k := ⟨c.toNat, by omega⟩
  cases b with
  | true => exact tab_tells (TabOk.of_run pok plans_ok rfl .nil tabL0_run) (List.mem_map.2 ⟨k, List.mem_range.2 (by omega), rfl⟩)
  | false => exact tab_tells (TabOk.of_run pok plans_ok rfl .nil tabL1_run) (List.mem_map.2 ⟨k, List.mem_range.2 (by omega), rfl⟩)
theorem of_spec {h : Heap} {n : Nat} (c : Int) (hc : 0 ≤ c ∧ c < 256) : Tells Tryd.prog 85 [.int .u8 c] h n (.int .i64 (kindB c)) := by
  obtain ⟨k, rfl⟩ : ∃ k : Nat, c = k := ⟨c.toNat, by omega⟩
  exact tab_tells (TabOk.of_run pok plans_ok rfl .nil tabK_run) (List.mem_map.2 ⟨k, List.mem_range.2 (by omega), rfl⟩)
end Go.Proofs.YtkpaklofdkjinaaDoor
namespace Go.Proofs.YtkpaklofdkjinaaDoor
open Go Go.Abs
set_option maxRecDepth 100000
set_option maxHeartbeats 4000000
theorem l20_spec {h : Heap} {n : Nat} (s : ByteArray) (hlen : s.data.toList.length < 9223372036854775808) :
    Tells Tryd.prog 69 [.string (s)] h n (.bool (mayNameB s)) := by
 refine Makes.tells (Makes.free fun hf => ?_)
 have hs : SubBut h h ([]) := .refl _ _
 have hn : n ≤ n := Nat.le_refl _
 have hf0 := hf
 refine Makes.of_bodyV (args := [.string (s)]) (vs := [.string (s), undef, undef, undef, undef, undef, undef, undef, undef, undef, undef, undef, undef, undef, undef, undef, undef, undef, undef, undef, undef, undef, undef, undef]) Tryd.func69 rfl rfl ?_
 refine AWp.seq (AWp.rowV (l := _) pok ?_)
 refine sq.c (v := .bool false) rfl rfl rfl rfl ?_
 refine sq.e (AWp.seq (AWp.seq (AWp.rowV (l := _) pok ?_)))
 refine sq.c (v := .string (s)) rfl rfl rfl rfl ?_
 refine sq.c (v := .int .i64 ((((s).data.toList.length : Nat) : Int))) rfl rfl (by kernel_rfl) rfl ?_
 refine sq.c (v := .int .i64 (0)) rfl rfl rfl rfl ?_
 refine sq.e (AWp.block ?_)
 refine AWp.loopV (fun d vs h' n2 => ∃ (i : Int), d = ((s.data.toList.length : Nat) - i + 1).toNat ∧ h = h' ∧ n ≤ n2 ∧ Free h n2 ∧ (0 ≤ i) ∧ (i ≤ (s.data.toList.length : Nat)) ∧ (∀ j : Nat, (j : Int) < i → letterB (bt s (j : Nat)) (decide (j = 0)) = true) ∧ ∃ y1 : Nat → Value, vs = [.string (s), undef, (y1 2), (y1 3), .string (s), .int .i64 ((((s).data.toList.length : Nat) : Int)), .int .i64 (i), (y1 7), (y1 8), (y1 9), (y1 10), (y1 11), (y1 12), (y1 13), (y1 14), (y1 15), (y1 16), undef, undef, undef, undef, undef, undef, undef]) (((s.data.toList.length : Nat) - (0 : Int) + 1).toNat) ⟨0, rfl, rfl, hn, hf, (by omega), (by omega), (fun j hj => by omega), getV [undef, undef, .bool false, undef, undef, undef, undef, undef, undef, undef, undef, undef, undef, undef, undef, undef, undef], rfl⟩ ?_
 rintro d vs h' n2 ⟨i, rfl, rfl, hn, hf, hi0, hi1, hyes, y1, rfl⟩
 refine AWp.seq (AWp.rowV (l := _) pok ?_)
 refine sq.c (v := .bool (decide (i < ((((s).data.toList.length : Nat) : Int))))) rfl rfl rfl rfl ?_
 refine sq.e (AWp.seq ?_)
 by_cases c2_0 : i < ((((s).data.toList.length : Nat) : Int))
 ·rw [decide_eq_true c2_0]
  refine AWp.condT rfl rfl ?_
  refine AWp.skip (AWp.seq (AWp.block (AWp.seq (AWp.rowV (l := _) pok ?_))))
  refine sq.c (v := .int .i64 (i)) rfl rfl rfl rfl ?_
  refine sq.c (v := .int .i64 (i)) rfl rfl rfl rfl ?_
  refine sq.e (AWp.seq (AWp.rowV (l := _) pok ?_))
  refine sq.c (v := .string (s)) rfl rfl rfl rfl ?_
  refine sq.c (v := .int .i64 (i)) rfl rfl rfl rfl ?_
  refine sq.c (v := .int .u8 (bt (s) (i))) rfl rfl (index_str (P := Tryd.prog) (t := 9) (s := s) (i := i) (k := .i64) (by kernel_rfl) (by omega) (by omega)) rfl ?_
  refine sq.c (v := .int .i64 (i)) rfl rfl rfl rfl ?_
  refine sq.c (v := .bool (decide (i = (0 : Int)))) rfl rfl rfl rfl ?_
  refine sq.t (v := .bool (letterB (bt (s) (i)) (decide (i = (0 : Int))))) rfl (CallsF.fn rfl (by kernel_rfl) rfl rfl) (fun hf => l45_spec _ _ (bt_lt _ _)) hf rfl ?_
  intro n3 hn2 hf
  have hn := Nat.le_trans hn hn2
  rcases Bool.eq_false_or_eq_true (letterB (bt (s) (i)) (decide (i = (0 : Int)))) with c4_5 | c4_5
  ·rw [c4_5]
   refine sq.c (v := .bool false) rfl rfl rfl rfl ?_
   refine sq.e ?_
   refine AWp.condF rfl rfl ?_
   refine AWp.skip (AWp.rowV (l := _) pok ?_)
   refine sq.c (v := .int .i64 (i + 1)) rfl rfl (okI (wrap_i64 (by omega) (by omega))) rfl ?_
   refine sq.c (v := .int .i64 (i + 1)) rfl rfl rfl rfl ?_
   refine sq.e ?_
   have hy : ∀ j : Nat, (j : Int) < i + 1 → letterB (bt s (j : Nat)) (decide (j = 0)) = true := by
    intro j hj
    rcases Int.lt_or_eq_of_le (show (j : Int) ≤ i by omega) with q | q
    ·exact hyes j q
    ·subst q
     rw [show decide (j = 0) = decide ((j : Int) = 0) from decide_eq_decide.2 (by omega)]
     exact c4_5
   refine ⟨_, _, rfl, by omega, i + 1, rfl, rfl, hn, hf, (by omega), (by omega), (hy), getV [undef, undef, (y1 2), .int .i64 (i), undef, undef, undef, .bool true, .int .i64 (i), .string (s), .int .i64 (i), .int .u8 (bt (s) (i)), .int .i64 (i), .bool (decide (i = (0 : Int))), .bool true, .bool false, .int .i64 (i + 1)], rfl⟩
  ·rw [c4_5]
   refine sq.c (v := .bool true) rfl rfl rfl rfl ?_
   refine sq.e ?_
   refine AWp.condT rfl rfl ?_
   refine AWp.seq (AWp.rowV (l := _) pok ?_)
   refine sq.c (v := .bool false) rfl rfl rfl rfl ?_
   refine sq.e ?_
   refine AWp.ret ?_
   refine ⟨rfl, [.bool false], rfl, .bool false, rfl, hs, hn, ?_⟩
   show Value.bool false = .bool (mayNameB s)
   unfold mayNameB
   rw [all_range_false (i := i.toNat) (by omega) (by
    show letterB (bt s ((i.toNat : Nat) : Int)) (decide (i.toNat = 0)) = false
    rw [show ((i.toNat : Nat) : Int) = i by omega, show decide (i.toNat = 0) = decide (i = 0) from decide_eq_decide.2 (by omega)]; exact c4_5), Bool.and_false]
 ·rw [decide_eq_false c2_0]
  refine AWp.condF rfl rfl ?_
  refine AWp.exit ?_
  refine AWp.seq (AWp.rowV (l := _) pok ?_)
  refine sq.c (v := .string (s)) rfl rfl rfl rfl ?_
  refine sq.c (v := .bool (!decide (s = (⟨#[]⟩ : ByteArray)))) rfl rfl (neD _ _) rfl ?_
  refine sq.c (v := .bool (!decide (s = (⟨#[]⟩ : ByteArray)))) rfl rfl rfl rfl ?_
  by_cases c7_1 : s = (⟨#[]⟩ : ByteArray)
  ·rw [decide_eq_true c7_1]
   refine sq.s (wantF (g := 2) (d := 19) rfl rfl rfl) rfl ?_
   refine sq.s (wantF (g := 2) (d := 19) rfl rfl rfl) rfl ?_
   refine sq.s (wantF (g := 2) (d := 19) rfl rfl rfl) rfl ?_
   refine sq.c (v := .bool false) rfl rfl rfl rfl ?_
   refine sq.c (v := .bool false) rfl rfl rfl rfl ?_
   refine sq.e ?_
   refine AWp.ret ?_
   refine ⟨rfl, [.bool false], rfl, .bool false, rfl, hs, hn, ?_⟩
   show Value.bool false = .bool (mayNameB s)
   subst c7_1; rfl
  ·rw [decide_eq_false c7_1]
   refine sq.c (v := .string (s)) (wantT (g := 2) (d := 19) rfl rfl rfl) rfl rfl rfl ?_
   refine sq.c (v := .int .i64 ((((s).data.toList.length : Nat) : Int))) (wantT (g := 2) (d := 19) rfl rfl rfl) rfl (by kernel_rfl) rfl ?_
   refine sq.c (v := .bool (decide (((((s).data.toList.length : Nat) : Int)) ≤ (64 : Int)))) (wantT (g := 2) (d := 19) rfl rfl rfl) rfl rfl rfl ?_
   refine sq.c (v := .bool (decide (((((s).data.toList.length : Nat) : Int)) ≤ (64 : Int)))) rfl rfl rfl rfl ?_
   refine sq.c (v := .bool (decide (((((s).data.toList.length : Nat) : Int)) ≤ (64 : Int)))) rfl rfl rfl rfl ?_
   refine sq.e ?_
   refine AWp.ret ?_
   refine ⟨rfl, [.bool (decide (((((s).data.toList.length : Nat) : Int)) ≤ (64 : Int)))], rfl, .bool (decide (((((s).data.toList.length : Nat) : Int)) ≤ (64 : Int))), rfl, hs, hn, ?_⟩
   show Value.bool (decide (((((s).data.toList.length : Nat) : Int)) ≤ (64 : Int))) = .bool (mayNameB s)
   unfold mayNameB
   have hp := bt0_pos c7_1
   rw [all_range (fun j hj => hyes j (by omega)), Bool.and_true]
   exact congrArg Value.bool (decide_eq_decide.2 (by omega))
theorem l22_spec {h : Heap} {n : Nat} (s : ByteArray) (hl : Laid0 h) (hlen : s.data.toList.length < 9223372036854775808) :
    Tells Tryd.prog 70 [.string (s)] h n (.bool (mayValueB s)) := by
 refine Makes.tells (Makes.free fun hf => ?_)
 have hs : SubBut h h ([]) := .refl _ _
 have hn : n ≤ n := Nat.le_refl _
 have hf0 := hf
 refine Makes.of_bodyV (args := [.string (s)]) (vs := [.string (s), undef, undef, undef, undef, undef, undef, undef, undef, undef, undef, undef, undef, undef, undef, undef, undef, undef, undef, undef, undef, undef, undef, undef, undef, undef, undef, undef, undef]) Tryd.func70 rfl rfl ?_
 refine AWp.seq (AWp.rowV (l := _) pok ?_)
 refine sq.c (v := .bool false) rfl rfl rfl rfl ?_
 refine sq.e (AWp.seq (AWp.rowV (l := _) pok ?_))
 refine sq.c (v := .int .i64 (0)) rfl rfl rfl rfl ?_
 refine sq.e (AWp.seq (AWp.seq (AWp.rowV (l := _) pok ?_)))
 refine sq.c (v := .string (s)) rfl rfl rfl rfl ?_
 have z_n : h.get n = none := hf0 _ hn
 refine sq.op rfl rfl (Does.range (s := s) hf (by kernel_rfl) rfl) ?_
 rintro _ h2 n3 ⟨rfl, hb1⟩ s4 hn2 hf
 refine sq.w ?_
 have hs := hs.trans s4
 have hn := Nat.le_trans hn hn2
 refine sq.e (AWp.block ?_)
 refine AWp.loopV (fun d vs h6 n7 => ∃ (p k : Nat) (ds : List (Nat × Nat)), d = s.data.toList.length - p + 1 ∧ SubBut h h6 ([]) ∧ n ≤ n7 ∧ Free h6 n7 ∧ h6.get n = some (.siter (s) p) ∧ (k = ds.length) ∧ (ds.length ≤ 64) ∧ (decs s.data.toList = ds ++ decs (s.data.toList.drop p)) ∧ (ds.all okC = true) ∧ (p ≤ s.data.toList.length) ∧ ∃ y5 : Nat → Value, vs = [.string (s), undef, (y5 2), .int .i64 ((k : Int)), undef, (y5 5), .string (s), .pointer (some ⟨n, 0, none⟩), (y5 8), (y5 9), (y5 10), (y5 11), (y5 12), (y5 13), (y5 14), (y5 15), (y5 16), (y5 17), (y5 18), (y5 19), (y5 20), (y5 21), (y5 22), undef, undef, undef, undef, undef, undef]) (s.data.toList.length - 0 + 1) ⟨0, 0, [], rfl, hs, hn, hf, hb1, (rfl), (by simp), (by simp), (rfl), (by omega), getV [undef, undef, .bool false, undef, undef, undef, undef, undef, undef, undef, undef, undef, undef, undef, undef, undef, undef, undef, undef, undef, undef, undef, undef], rfl⟩ ?_
 rintro d vs h6 n7 ⟨p, k, ds, rfl, hs, hn, hf, hb1, hk, hk2, hr, hok, hp, y5, rfl⟩
 refine AWp.seq (AWp.rowV (l := _) pok ?_)
 by_cases c3_0 : p < (s).data.toList.length
 ·skip
  refine sq.op rfl rfl (Does.nextYes hf rfl hb1 c3_0) ?_
  rintro _ h10 n11 ⟨rfl, hb8⟩ s12 hn2 hf
  refine sq.w ?_
  have hs := hs.fresh z_n s12
  have hn := Nat.le_trans hn hn2
  refine sq.c (v := .bool true) rfl rfl rfl rfl ?_
  refine sq.e (AWp.seq ?_)
  refine AWp.condT rfl rfl ?_
  refine AWp.skip (AWp.block (AWp.seq (AWp.rowV (l := _) pok ?_)))
  refine sq.c (v := .int .i32 ((Utf8.decode (s) p).1)) rfl rfl rfl rfl ?_
  refine sq.c (v := .int .i32 ((Utf8.decode (s) p).1)) rfl rfl rfl rfl ?_
  refine sq.e (AWp.seq (AWp.rowV (l := _) pok ?_))
  refine sq.c (v := .int .i64 ((k : Int))) rfl rfl rfl rfl ?_
  refine sq.c (v := .int .i64 (((k : Int)) + 1)) rfl rfl (okI (wrap_i64 (by omega) (by omega))) rfl ?_
  refine sq.c (v := .int .i64 (((k : Int)) + 1)) rfl rfl rfl rfl ?_
  refine sq.e (AWp.seq (AWp.rowV (l := _) pok ?_))
  refine sq.c (v := .int .i64 (((k : Int)) + 1)) rfl rfl rfl rfl ?_
  refine sq.c (v := .bool (decide ((64 : Int) < (((k : Int)) + 1)))) rfl rfl rfl rfl ?_
  refine sq.c (v := .bool (decide ((64 : Int) < (((k : Int)) + 1)))) rfl rfl rfl rfl ?_
  by_cases c6_1 : (64 : Int) < (((k : Int)) + 1)
  ·rw [decide_eq_true c6_1]
   refine sq.s (wantF (g := 2) (d := 15) rfl rfl rfl) rfl ?_
   refine sq.s (wantF (g := 2) (d := 15) rfl rfl rfl) rfl ?_
   refine sq.c (v := .bool true) rfl rfl rfl rfl ?_
   refine sq.c (v := .bool true) rfl rfl rfl rfl ?_
   refine sq.s (wantF (g := 6) (d := 19) rfl rfl rfl) rfl ?_
   refine sq.s (wantF (g := 6) (d := 19) rfl rfl rfl) rfl ?_
   refine sq.c (v := .bool true) rfl rfl rfl rfl ?_
   refine sq.e ?_
   refine AWp.condT rfl rfl ?_
   refine AWp.seq (AWp.rowV (l := _) pok ?_)
   refine sq.c (v := .bool false) rfl rfl rfl rfl ?_
   refine sq.e ?_
   refine AWp.ret ?_
   refine ⟨rfl, [.bool false], rfl, .bool false, rfl, hs, hn, ?_⟩
   show Value.bool false = .bool (mayValueL s.data.toList)
   rw [mv_long (hr.trans (by rw [(decode_step s p c3_0).1])) (by omega)]
  ·rw [decide_eq_false c6_1]
   refine sq.c (v := .int .i32 ((Utf8.decode (s) p).1)) (wantT (g := 2) (d := 15) rfl rfl rfl) rfl rfl rfl ?_
   refine sq.c (v := .bool (decide (((Utf8.decode (s) p).1) < (32 : Int)))) (wantT (g := 2) (d := 15) rfl rfl rfl) rfl rfl rfl ?_
   refine sq.c (v := .bool (decide (((Utf8.decode (s) p).1) < (32 : Int)))) rfl rfl rfl rfl ?_
   refine sq.c (v := .bool (decide (((Utf8.decode (s) p).1) < (32 : Int)))) rfl rfl rfl rfl ?_
   by_cases c6_4 : ((Utf8.decode (s) p).1) < (32 : Int)
   ·rw [decide_eq_true c6_4]
    refine sq.s (wantF (g := 6) (d := 19) rfl rfl rfl) rfl ?_
    refine sq.s (wantF (g := 6) (d := 19) rfl rfl rfl) rfl ?_
    refine sq.c (v := .bool true) rfl rfl rfl rfl ?_
    refine sq.e ?_
    refine AWp.condT rfl rfl ?_
    refine AWp.seq (AWp.rowV (l := _) pok ?_)
    refine sq.c (v := .bool false) rfl rfl rfl rfl ?_
    refine sq.e ?_
    refine AWp.ret ?_
    refine ⟨rfl, [.bool false], rfl, .bool false, rfl, hs, hn, ?_⟩
    show Value.bool false = .bool (mayValueL s.data.toList)
    rw [mv_bad (hr.trans (by rw [(decode_step s p c3_0).1])) (by simp [okC]; omega)]
   ·rw [decide_eq_false c6_4]
    refine sq.c (v := .int .i32 ((Utf8.decode (s) p).1)) (wantT (g := 6) (d := 19) rfl rfl rfl) rfl rfl rfl ?_
    refine sq.c (v := .bool (decide (((Utf8.decode (s) p).1) = (127 : Int)))) (wantT (g := 6) (d := 19) rfl rfl rfl) rfl rfl rfl ?_
    refine sq.c (v := .bool (decide (((Utf8.decode (s) p).1) = (127 : Int)))) rfl rfl rfl rfl ?_
    refine sq.e ?_
    by_cases c6_8 : ((Utf8.decode (s) p).1) = (127 : Int)
    ·rw [decide_eq_true c6_8]
     refine AWp.condT rfl rfl ?_
     refine AWp.seq (AWp.rowV (l := _) pok ?_)
     refine sq.c (v := .bool false) rfl rfl rfl rfl ?_
     refine sq.e ?_
     refine AWp.ret ?_
     refine ⟨rfl, [.bool false], rfl, .bool false, rfl, hs, hn, ?_⟩
     show Value.bool false = .bool (mayValueL s.data.toList)
     rw [mv_bad (hr.trans (by rw [(decode_step s p c3_0).1])) (by simp [okC]; omega)]
    ·rw [decide_eq_false c6_8]
     refine AWp.condF rfl rfl ?_
     refine AWp.skip ?_
     obtain ⟨q1, q2, q3⟩ := decode_step s p c3_0
     refine ⟨_, _, rfl, by omega, _, k + 1, ds ++ [Utf8.decode s p], rfl, hs, hn, hf, hb8, (by simp [hk]), (by simp; omega), (by rw [hr, q1]; simp), (by rw [List.all_append, hok]; simp [okC]; omega), (by omega), getV [undef, undef, (y5 2), undef, undef, .int .i32 ((Utf8.decode (s) p).1), undef, undef, .tuple #[.bool true, .int .i64 (p), .int .i32 ((Utf8.decode (s) p).1)], .bool true, .int .i32 ((Utf8.decode (s) p).1), .int .i64 ((k : Int)), .int .i64 (((k : Int)) + 1), .int .i64 (((k : Int)) + 1), .bool false, .bool false, .int .i32 ((Utf8.decode (s) p).1), .bool false, .bool false, .bool false, .int .i32 ((Utf8.decode (s) p).1), .bool false, .bool false], rfl⟩
 ·skip
  refine sq.op rfl rfl (Does.nextNo hf rfl hb1 c3_0) ?_
  rintro _ h13 n14 rfl s15 hn2 hf
  refine sq.w ?_
  have hs := hs.trans s15
  have hn := Nat.le_trans hn hn2
  refine sq.c (v := .bool false) rfl rfl rfl rfl ?_
  refine sq.e (AWp.seq ?_)
  refine AWp.condF rfl rfl ?_
  refine AWp.exit ?_
  refine AWp.seq (AWp.rowV (l := _) pok ?_)
  refine sq.c (v := .int .i64 ((k : Int))) rfl rfl rfl rfl ?_
  refine sq.c (v := .bool (decide ((0 : Int) < ((k : Int))))) rfl rfl rfl rfl ?_
  refine sq.c (v := .bool (decide ((0 : Int) < ((k : Int))))) rfl rfl rfl rfl ?_
  by_cases c8_1 : (0 : Int) < ((k : Int))
  ·rw [decide_eq_true c8_1]
   refine sq.c (v := .string (s)) (wantT (g := 2) (d := 25) rfl rfl rfl) rfl rfl rfl ?_
   refine sq.t (v := .bool (Lib.validD s.data.toList)) (wantT (g := 2) (d := 25) rfl rfl rfl) (CallsF.fn rfl (by kernel_rfl) rfl rfl) (fun hf => l46_spec _ (hl.keep hs) hlen) hf rfl ?_
   intro n16 hn2 hf
   have hn := Nat.le_trans hn hn2
   refine sq.c (v := .bool (Lib.validD s.data.toList)) rfl rfl rfl rfl ?_
   refine sq.c (v := .bool (Lib.validD s.data.toList)) rfl rfl rfl rfl ?_
   refine sq.e ?_
   refine AWp.ret ?_
   refine ⟨rfl, [.bool (Lib.validD s.data.toList)], rfl, .bool (Lib.validD s.data.toList), rfl, hs, hn, ?_⟩
   show Value.bool (Lib.validD s.data.toList) = .bool (mayValueL s.data.toList)
   have hd : s.data.toList.drop p = [] := List.drop_eq_nil_of_le (by omega)
   rw [hd, decs_nil, List.append_nil] at hr
   rw [mv_end hr hok hk2, decide_eq_true (show 0 < ds.length by omega)]; rfl
  ·rw [decide_eq_false c8_1]
   refine sq.s (wantF (g := 2) (d := 25) rfl rfl rfl) rfl ?_
   refine sq.s (wantF (g := 2) (d := 25) rfl rfl rfl) rfl ?_
   refine sq.c (v := .bool false) rfl rfl rfl rfl ?_
   refine sq.c (v := .bool false) rfl rfl rfl rfl ?_
   refine sq.e ?_
   refine AWp.ret ?_
   refine ⟨rfl, [.bool false], rfl, .bool false, rfl, hs, hn, ?_⟩
   show Value.bool false = .bool (mayValueL s.data.toList)
   have hd : s.data.toList.drop p = [] := List.drop_eq_nil_of_le (by omega)
   rw [hd, decs_nil, List.append_nil] at hr
   rw [mv_end hr hok hk2, decide_eq_false (show ¬ 0 < ds.length by omega)]; rfl
theorem same_all {ls ms : List Lab} (h : ls.length = ms.length) (hy : ∀ j : Nat, j < ls.length → ls[j]? = ms[j]?) : ls = ms := by
  apply List.ext_getElem?
  intro j
  by_cases hj : j < ls.length
  · exact hy j hj
  · rw [List.getElem?_eq_none (by omega), List.getElem?_eq_none (by omega)]
theorem same_not {ls ms : List Lab} {i : Nat} {x y : Lab} (hx : ls[i]? = some x) (hy : ms[i]? = some y) (h : ¬ x = y) : ¬ ls = ms := by
  intro e
  rw [e, hy] at hx
  exact h (Option.some.inj hx).symm
theorem labNe (x y : Lab) : binE Tryd.prog .neq 61 false false (.agg #[.string x.1, .string x.2]) (.agg #[.string y.1, .string y.2]) = some (.bool (!decide (x = y))) := by
  rw [binE_neq (b := eqS x.1 y.1 && (eqS x.2 y.2 && true)) Tryd.underlying61 (by kernel_rfl) (by kernel_rfl) rfl rfl (by kernel_rfl)]
  have e : (eqS x.1 y.1 && (eqS x.2 y.2 && true)) = decide (x = y) := by
    rw [Bool.eq_iff_iff]
    simp only [Bool.and_true, Bool.and_eq_true, eqS_of, decide_eq_true_eq]
    exact ⟨fun ⟨a, b⟩ => Prod.ext a b, fun e => by rw [e]; exact ⟨rfl, rfl⟩⟩
  rw [e]
theorem appByte : AppT Tryd.prog encByte 110 5 1 := ⟨by kernel_rfl, by kernel_rfl, by kernel_rfl, fun _ => rfl⟩
def lo8 (n : Int) : UInt8 := UInt8.ofNat n.toNat
theorem wrap_lo8 {n : Int} (h : 0 ≤ n) : IntKind.u8.wrap n = ((lo8 n).toNat : Int) := by
  have e : IntKind.u8.wrap n = n % 256 := by simp [IntKind.wrap, IntKind.bits, IntKind.signed]
  rw [e]
  unfold lo8
  rw [UInt8.toNat_ofNat']
  omega
def hi8 (u : UInt8) : UInt8 := u ||| 128
theorem or_hi8 (u : UInt8) : binE Tryd.prog .or 5 false true (.int .u8 u.toNat) (.int .u8 128) = some (.int .u8 (hi8 u).toNat) := by
  have e : intE .or .u8 u.toNat 128 = some (.int .u8 (hi8 u).toNat) := by
    have hu := u.toNat_lt
    have hc : ∀ n, n < 256 → IntKind.u8.wrap ((BitVec.ofInt IntKind.u8.bits (n : Nat) ||| BitVec.ofInt IntKind.u8.bits 128).toNat) = ((n ||| 128 : Nat) : Int) := by
      have : ((List.range 256).all fun n => IntKind.u8.wrap ((BitVec.ofInt IntKind.u8.bits (n : Nat) ||| BitVec.ofInt IntKind.u8.bits 128).toNat) == ((n ||| 128 : Nat) : Int)) = true := by kernel_rfl
      intro n hn
      simpa using List.all_eq_true.1 this n (List.mem_range.2 hn)
    show some (Value.int .u8 (IntKind.u8.wrap _)) = _
    rw [hc _ hu]
    unfold hi8
    rw [UInt8.toNat_or]
    rfl
  exact e
theorem lo8_nat (n : Int) : lo8 (n.toNat : Nat) = lo8 n := by unfold lo8; rw [Int.toNat_natCast]
def uvar (n : Nat) : List UInt8 := if n < 128 then [lo8 n] else hi8 (lo8 n) :: uvar (n / 128)
theorem uvar_lt {n : Int} (h : n < 128) : uvar n.toNat = [lo8 n] := by
  rw [uvar, if_pos (by omega), lo8_nat]
theorem uvar_ge {n : Int} (h : 128 ≤ n) : uvar n.toNat = hi8 (lo8 n) :: uvar (n / 128).toNat := by
  rw [uvar, if_neg (by omega), show (n / 128).toNat = n.toNat / 128 by omega, lo8_nat]
theorem uvar_len : ∀ (k n : Nat), n < 128 ^ (k + 1) → (uvar n).length ≤ k + 1 := by
  intro k
  induction k with
  | zero => intro n h; rw [uvar, if_pos (by simpa using h)]; simp
  | succ k ih =>
    intro n h
    rw [uvar]
    split
    · simp
    · have := ih (n / 128) (by rw [Nat.div_lt_iff_lt_mul (by decide), ← Nat.pow_succ]; exact h)
      simp only [List.length_cons]; omega
theorem uvar_ten {n : Int} (h0 : 0 ≤ n) (h1 : n < 18446744073709551616) : (uvar n.toNat).length ≤ 10 := uvar_len 9 _ (by omega)
def txt (s : ByteArray) : List UInt8 := uvar s.data.toList.length ++ s.data.toList
theorem txt_len (s : ByteArray) (h : s.data.toList.length < 9223372036854775808) : (txt s).length ≤ s.data.toList.length + 10 := by
  unfold txt
  have := uvar_ten (n := s.data.toList.length) (by omega) (by omega)
  simp at this
  simp
  omega
def keyB (ls : List Lab) : List UInt8 := ls.flatMap fun x => txt x.1 ++ txt x.2
theorem keyB_step {ls : List Lab} {i : Nat} {x : Lab} (h : ls[i]? = some x) : keyB (ls.take (i + 1)) = keyB (ls.take i) ++ (txt x.1 ++ txt x.2) := by
  unfold keyB
  obtain ⟨hi, rfl⟩ := List.getElem?_eq_some_iff.1 h
  rw [List.take_succ_eq_append_getElem hi, List.flatMap_append]
  simp
theorem keyB_len (ls : List Lab) (h : ∀ x ∈ ls, x.1.data.toList.length < 6000 ∧ x.2.data.toList.length < 6000) : (keyB ls).length ≤ ls.length * 12100 := by
  induction ls with
  | nil => simp [keyB]
  | cons x r ih =>
    have h1 := h x (List.mem_cons_self ..)
    have h2 := ih fun y hy => h y (List.mem_cons_of_mem _ hy)
    have h3 := txt_len x.1 (by omega)
    have h4 := txt_len x.2 (by omega)
    unfold keyB at *
    rw [List.flatMap_cons, List.length_append, List.length_append, List.length_cons]
    omega
theorem l24_spec {h : Heap} {n : Nat} {a : Option Addr} {cp : Nat} (ls : List Lab) (hl : IsRow encLab h (.slice a ls.length cp) ls) (hlen : ls.length < 9223372036854775808) (hsz : ∀ x ∈ ls, x.1.data.toList.length < 9223372036854775808 ∧ x.2.data.toList.length < 9223372036854775808) (hld : Laid0 h) :
    Tells Tryd.prog 54 [.slice a (ls.length) cp] h n (.bool (mayB ls)) := by
 refine Makes.tells (Makes.free fun hf => ?_)
 have hs : SubBut h h ([]) := .refl _ _
 have hn : n ≤ n := Nat.le_refl _
 have hf0 := hf
 refine Makes.of_bodyV (args := [.slice a (ls.length) cp]) (vs := [.slice a (ls.length) cp, undef, undef, undef, undef, undef, undef, undef, undef, undef, undef, undef, undef, undef, undef, undef, undef, undef, undef, undef, undef, undef, undef, undef, undef, undef, undef, undef, undef, undef, undef, undef, undef, undef, undef, undef, undef, undef, undef, undef, undef, undef, undef, undef, undef, undef]) Tryd.func54 rfl rfl ?_
 refine AWp.seq (AWp.rowV (l := _) pok ?_)
 refine sq.c (v := .bool false) rfl rfl rfl rfl ?_
 refine sq.e (AWp.seq (AWp.seq (AWp.rowV (l := _) pok ?_)))
 refine sq.c (v := .slice a (ls.length) cp) rfl rfl rfl rfl ?_
 refine sq.c (v := .int .i64 (((ls.length : Nat) : Int))) rfl rfl (by kernel_rfl) rfl ?_
 refine sq.c (v := .int .i64 (0)) rfl rfl rfl rfl ?_
 refine sq.e (AWp.block ?_)
 refine AWp.loopV (fun d vs h2 n3 => ∃ (i : Int), d = ((ls.length : Nat) - i + 1).toNat ∧ SubBut h h2 ([]) ∧ n ≤ n3 ∧ Free h2 n3 ∧ (0 ≤ i) ∧ (i ≤ (ls.length : Nat)) ∧ (∀ j : Nat, (j : Int) < i → okAt ls j = true) ∧ ∃ y1 : Nat → Value, vs = [.slice a (ls.length) cp, undef, (y1 2), (y1 3), (y1 4), .slice a (ls.length) cp, .int .i64 (((ls.length : Nat) : Int)), .int .i64 (i), (y1 8), (y1 9), (y1 10), (y1 11), (y1 12), (y1 13), (y1 14), (y1 15), (y1 16), (y1 17), (y1 18), (y1 19), (y1 20), (y1 21), (y1 22), (y1 23), (y1 24), (y1 25), (y1 26), (y1 27), (y1 28), (y1 29), (y1 30), (y1 31), (y1 32), (y1 33), (y1 34), (y1 35), (y1 36), (y1 37), undef, undef, undef, undef, undef, undef, undef, undef]) (((ls.length : Nat) - (0 : Int) + 1).toNat) ⟨0, rfl, hs, hn, hf, (by omega), (by omega), (fun j hj => by omega), getV [undef, undef, .bool false, undef, undef, undef, undef, undef, undef, undef, undef, undef, undef, undef, undef, undef, undef, undef, undef, undef, undef, undef, undef, undef, undef, undef, undef, undef, undef, undef, undef, undef, undef, undef, undef, undef, undef, undef], rfl⟩ ?_
 rintro d vs h2 n3 ⟨i, rfl, hs, hn, hf, hi0, hi1, hyes0, y1, rfl⟩
 refine AWp.seq (AWp.rowV (l := _) pok ?_)
 refine sq.c (v := .bool (decide (i < (((ls.length : Nat) : Int))))) rfl rfl rfl rfl ?_
 refine sq.e (AWp.seq ?_)
 by_cases c2_0 : i < (((ls.length : Nat) : Int))
 ·rw [decide_eq_true c2_0]
  refine AWp.condT rfl rfl ?_
  refine AWp.skip (AWp.seq (AWp.block (AWp.seq (AWp.rowV (l := _) pok ?_))))
  refine sq.c (v := .int .i64 (i)) rfl rfl rfl rfl ?_
  have i10 : (0 : Int) ≤ (i : Int) := by omega
  obtain ⟨x11, hx_x11⟩ : ∃ x, (ls)[((i : Int)).toNat]? = some x := ⟨_, List.getElem?_eq_getElem (by omega)⟩
  have g_x11 := hsz x11 (List.mem_of_getElem? hx_x11)
  obtain ⟨b4, o5, cs_b4, ow_b4, ci_b4, ie9, hb6, hc7, hr8⟩ := IsRow.at (P := Tryd.prog) (t := 40) (e := 61) (k := .i64) (by kernel_rfl) (by kernel_rfl) (hl.keep hs) i10 hx_x11
  refine sq.c (v := .pointer (some ⟨b4, o5, none⟩)) rfl rfl ie9 rfl ?_
  refine sq.c (v := .agg #[.string (x11.1), .string (x11.2)]) rfl rfl (ldR (P := Tryd.prog) (t := 61) (k := 2) (xs := [.string (x11.1), .string (x11.2)]) (by kernel_rfl) (by kernel_rfl) hr8) rfl ?_
  have z_n3 : h.get n3 = none := hf0 _ hn
  refine sq.op rfl rfl (Does.alloc (cs := [.string (⟨#[]⟩), .string (⟨#[]⟩)]) hf (z := .agg #[.string (⟨#[]⟩), .string (⟨#[]⟩)]) (by kernel_rfl) rfl) ?_
  rintro _ h13 n14 ⟨rfl, hb12⟩ s15 hn2 hf
  refine sq.w ?_
  have hs := hs.trans s15
  have hn := Nat.le_trans hn hn2
  refine sq.c (v := .int .i64 (i)) rfl rfl rfl rfl ?_
  refine sq.op rfl rfl (Does.store (k := 2) (xs := [.string (x11.1), .string (x11.2)]) (cs' := [.string (x11.1), .string (x11.2)]) hf (by kernel_rfl) rfl rfl rfl hb12 rfl rfl (Nat.le_of_ble_eq_true rfl) rfl) ?_
  rintro _ h17 n18 ⟨rfl, hb16⟩ s19 hn2 hf
  refine sq.w0 ?_
  have hs := hs.fresh z_n3 s19
  have hn := Nat.le_trans hn hn2
  refine sq.e (AWp.seq ?_)
  refine AWp.anyV pok [] [0, 1, 2, 3, 4, 5, 6, 7, 8, 9, 10, 11, 12, 13, 14, 15, 16, 17, 18, 19, 20, 21, 22, 23, 24] (by kernel_rfl) (by kernel_rfl) rfl (fun x fr fr' h n hd _ q => ⟨hd ▸ q.1, q.2⟩) ?_
  refine dq.c (v := .pointer (some ⟨n3, 0, none⟩)) rfl (by kernel_rfl) rfl rfl (by kernel_rfl) rfl ?_
  refine dq.g (v := .string (x11.1)) rfl (by kernel_rfl) rfl rfl (ld1 (P := Tryd.prog) (t := 9) (p := 0) (v := .string (x11.1)) (by kernel_rfl) (by kernel_rfl) hb16 rfl) rfl ?_
  refine dq.t (v := .bool (mayNameB (x11.1))) rfl (by kernel_rfl) rfl (CallsF.fn rfl (by kernel_rfl) rfl rfl) (fun hf => l20_spec _ g_x11.1) hf rfl ?_
  intro n20 hn2 hf
  have hn := Nat.le_trans hn hn2
  rcases Bool.eq_false_or_eq_true (mayNameB (x11.1)) with c4_2 | c4_2
  ·rw [c4_2]
   refine dq.c (v := .bool false) rfl (by kernel_rfl) rfl rfl rfl rfl ?_
   refine dq.c (v := .bool false) rfl (by kernel_rfl) rfl rfl rfl rfl ?_
   refine dq.c (v := .pointer (some ⟨n3, 1, none⟩)) rfl (by kernel_rfl) (wantT (g := 4) (d := 16) rfl rfl rfl) rfl (by kernel_rfl) rfl ?_
   refine dq.g (v := .string (x11.2)) rfl (by kernel_rfl) (wantT (g := 4) (d := 16) rfl rfl rfl) rfl (ld1 (P := Tryd.prog) (t := 9) (p := 1) (v := .string (x11.2)) (by kernel_rfl) (by kernel_rfl) hb16 rfl) rfl ?_
   refine dq.t (v := .bool (mayValueB (x11.2))) rfl (by kernel_rfl) (wantT (g := 4) (d := 16) rfl rfl rfl) (CallsF.fn rfl (by kernel_rfl) rfl rfl) (fun hf => l22_spec _ (hld.keep hs) g_x11.2) hf rfl ?_
   intro n21 hn2 hf
   have hn := Nat.le_trans hn hn2
   rcases Bool.eq_false_or_eq_true (mayValueB (x11.2)) with c4_7 | c4_7
   ·rw [c4_7]
    refine dq.c (v := .bool false) rfl (by kernel_rfl) (wantT (g := 4) (d := 16) rfl rfl rfl) rfl rfl rfl ?_
    refine dq.c (v := .bool false) rfl (by kernel_rfl) rfl rfl rfl rfl ?_
    refine dq.c (v := .bool false) rfl (by kernel_rfl) rfl rfl rfl rfl ?_
    refine dq.c (v := .int .i64 (i)) rfl (by kernel_rfl) (wantT (g := 10) (d := 22) rfl rfl rfl) rfl rfl rfl ?_
    refine dq.c (v := .bool (decide ((0 : Int) < i))) rfl (by kernel_rfl) (wantT (g := 10) (d := 22) rfl rfl rfl) rfl rfl rfl ?_
    refine dq.c (v := .bool (decide ((0 : Int) < i))) rfl (by kernel_rfl) (wantT (g := 10) (d := 22) rfl rfl rfl) rfl rfl rfl ?_
    by_cases c4_12 : (0 : Int) < i
    ·rw [decide_eq_true c4_12]
     refine dq.c (v := .pointer (some ⟨n3, 0, none⟩)) rfl (by kernel_rfl) (wantT (g := 13) (d := 25) rfl rfl rfl) rfl (by kernel_rfl) rfl ?_
     refine dq.g (v := .string (x11.1)) rfl (by kernel_rfl) (wantT (g := 13) (d := 25) rfl rfl rfl) rfl (ld1 (P := Tryd.prog) (t := 9) (p := 0) (v := .string (x11.1)) (by kernel_rfl) (by kernel_rfl) hb16 rfl) rfl ?_
     refine dq.c (v := .slice a (ls.length) cp) rfl (by kernel_rfl) (wantT (g := 13) (d := 25) rfl rfl rfl) rfl rfl rfl ?_
     refine dq.c (v := .int .i64 (i)) rfl (by kernel_rfl) (wantT (g := 13) (d := 25) rfl rfl rfl) rfl rfl rfl ?_
     refine dq.c (v := .int .i64 (i - 1)) rfl (by kernel_rfl) (wantT (g := 13) (d := 25) rfl rfl rfl) rfl (okI (wrap_i64 (by omega) (by omega))) rfl ?_
     have i28 : (0 : Int) ≤ (i - 1 : Int) := by omega
     obtain ⟨x29, hx_x29⟩ : ∃ x, (ls)[((i - 1 : Int)).toNat]? = some x := ⟨_, List.getElem?_eq_getElem (by omega)⟩
     have g_x29 := hsz x29 (List.mem_of_getElem? hx_x29)
     obtain ⟨b22, o23, cs_b22, ow_b22, ci_b22, ie27, hb24, hc25, hr26⟩ := IsRow.at (P := Tryd.prog) (t := 40) (e := 61) (k := .i64) (by kernel_rfl) (by kernel_rfl) (hl.keep hs) i28 hx_x29
     refine dq.c (v := .pointer (some ⟨b22, o23, none⟩)) rfl (by kernel_rfl) (wantT (g := 13) (d := 25) rfl rfl rfl) rfl ie27 rfl ?_
     refine dq.c (v := .pointer (some ⟨b22, o23, none⟩)) rfl (by kernel_rfl) (wantT (g := 13) (d := 25) rfl rfl rfl) rfl (by kernel_rfl) rfl ?_
     refine dq.g (v := .string (x29.1)) rfl (by kernel_rfl) (wantT (g := 13) (d := 25) rfl rfl rfl) rfl (ld1 (P := Tryd.prog) (t := 9) (p := o23 + 0) (v := .string (x29.1)) (by kernel_rfl) (by kernel_rfl) hb24 (hc25 0 _ rfl)) rfl ?_
     refine dq.c (v := .bool ((lessS x11.1 x29.1 || eqS x11.1 x29.1))) rfl (by kernel_rfl) (wantT (g := 13) (d := 25) rfl rfl rfl) rfl rfl rfl ?_
     refine dq.c (v := .bool ((lessS x11.1 x29.1 || eqS x11.1 x29.1))) rfl (by kernel_rfl) (wantT (g := 10) (d := 22) rfl rfl rfl) rfl rfl rfl ?_
     refine dq.c (v := .bool ((lessS x11.1 x29.1 || eqS x11.1 x29.1))) rfl (by kernel_rfl) rfl rfl rfl rfl ?_
     refine dq.e ?_
     rcases Bool.eq_false_or_eq_true ((lessS x11.1 x29.1 || eqS x11.1 x29.1)) with c4_22 | c4_22
     ·rw [c4_22]
      refine AWp.condT rfl rfl ?_
      refine AWp.seq (AWp.rowV (l := _) pok ?_)
      refine sq.c (v := .bool false) rfl rfl rfl rfl ?_
      refine sq.e ?_
      refine AWp.ret ?_
      refine ⟨rfl, [.bool false], rfl, .bool false, rfl, hs, hn, ?_⟩
      show Value.bool false = .bool (mayB ls)
      rw [may_row hx_x11 (by omega) (by rw [show i.toNat - 1 = (i - 1).toNat by omega]; exact hx_x29) c4_22]
     ·rw [c4_22]
      refine AWp.condF rfl rfl ?_
      refine AWp.skip (AWp.rowV (l := _) pok ?_)
      refine sq.c (v := .int .i64 (i + 1)) rfl rfl (okI (wrap_i64 (by omega) (by omega))) rfl ?_
      refine sq.c (v := .int .i64 (i + 1)) rfl rfl rfl rfl ?_
      refine sq.e ?_
      have ok1 : okAt ls i.toNat = true := okAt_yes hx_x11 c4_2 c4_7 (.inr ⟨_, by rw [show i.toNat - 1 = (i - 1).toNat by omega]; exact hx_x29, c4_22⟩)
      have hy : ∀ j : Nat, (j : Int) < i + 1 → okAt ls j = true := by
       intro j hj
       by_cases e : j = i.toNat
       ·rw [e]; exact ok1
       ·exact hyes0 j (by omega)
      refine ⟨_, _, rfl, by omega, i + 1, rfl, hs, hn, hf, (by omega), (by omega), (hy), getV [undef, undef, (y1 2), .int .i64 (i), .pointer (some ⟨n3, 0, none⟩), undef, undef, undef, .bool true, .int .i64 (i), .pointer (some ⟨b4, o5, none⟩), .agg #[.string (x11.1), .string (x11.2)], .pointer (some ⟨n3, 0, none⟩), .string (x11.1), .bool true, .bool false, .bool false, .pointer (some ⟨n3, 1, none⟩), .string (x11.2), .bool true, .bool false, .bool false, .bool false, .int .i64 (i), .bool true, .bool true, .pointer (some ⟨n3, 0, none⟩), .string (x11.1), .slice a (ls.length) cp, .int .i64 (i), .int .i64 (i - 1), .pointer (some ⟨b22, o23, none⟩), .pointer (some ⟨b22, o23, none⟩), .string (x29.1), .bool false, .bool false, .bool false, .int .i64 (i + 1)], rfl⟩
    ·rw [decide_eq_false c4_12]
     refine dq.s rfl (wantF (g := 13) (d := 25) rfl rfl rfl) rfl ?_
     refine dq.s rfl (wantF (g := 13) (d := 25) rfl rfl rfl) rfl ?_
     refine dq.s rfl (wantF (g := 13) (d := 25) rfl rfl rfl) rfl ?_
     refine dq.s rfl (wantF (g := 13) (d := 25) rfl rfl rfl) rfl ?_
     refine dq.s rfl (wantF (g := 13) (d := 25) rfl rfl rfl) rfl ?_
     refine dq.s rfl (wantF (g := 13) (d := 25) rfl rfl rfl) rfl ?_
     refine dq.s rfl (wantF (g := 13) (d := 25) rfl rfl rfl) rfl ?_
     refine dq.s rfl (wantF (g := 13) (d := 25) rfl rfl rfl) rfl ?_
     refine dq.s rfl (wantF (g := 13) (d := 25) rfl rfl rfl) rfl ?_
     refine dq.c (v := .bool false) rfl (by kernel_rfl) (wantT (g := 10) (d := 22) rfl rfl rfl) rfl rfl rfl ?_
     refine dq.c (v := .bool false) rfl (by kernel_rfl) rfl rfl rfl rfl ?_
     refine dq.e ?_
     refine AWp.condF rfl rfl ?_
     refine AWp.skip (AWp.rowV (l := _) pok ?_)
     refine sq.c (v := .int .i64 (i + 1)) rfl rfl (okI (wrap_i64 (by omega) (by omega))) rfl ?_
     refine sq.c (v := .int .i64 (i + 1)) rfl rfl rfl rfl ?_
     refine sq.e ?_
     have ok1 : okAt ls i.toNat = true := okAt_yes hx_x11 c4_2 c4_7 (.inl (by omega))
     have hy : ∀ j : Nat, (j : Int) < i + 1 → okAt ls j = true := by
      intro j hj
      by_cases e : j = i.toNat
      ·rw [e]; exact ok1
      ·exact hyes0 j (by omega)
     refine ⟨_, _, rfl, by omega, i + 1, rfl, hs, hn, hf, (by omega), (by omega), (hy), getV [undef, undef, (y1 2), .int .i64 (i), .pointer (some ⟨n3, 0, none⟩), undef, undef, undef, .bool true, .int .i64 (i), .pointer (some ⟨b4, o5, none⟩), .agg #[.string (x11.1), .string (x11.2)], .pointer (some ⟨n3, 0, none⟩), .string (x11.1), .bool true, .bool false, .bool false, .pointer (some ⟨n3, 1, none⟩), .string (x11.2), .bool true, .bool false, .bool false, .bool false, .int .i64 (i), .bool false, .bool false, undef, undef, undef, undef, undef, undef, undef, undef, undef, .bool false, .bool false, .int .i64 (i + 1)], rfl⟩
   ·rw [c4_7]
    refine dq.c (v := .bool true) rfl (by kernel_rfl) rfl rfl rfl rfl ?_
    refine dq.c (v := .bool true) rfl (by kernel_rfl) rfl rfl rfl rfl ?_
    refine dq.c (v := .bool true) rfl (by kernel_rfl) rfl rfl rfl rfl ?_
    refine dq.s rfl (wantF (g := 10) (d := 22) rfl rfl rfl) rfl ?_
    refine dq.s rfl (wantF (g := 10) (d := 22) rfl rfl rfl) rfl ?_
    refine dq.s rfl (wantF (g := 10) (d := 22) rfl rfl rfl) rfl ?_
    refine dq.s rfl (wantU (g := 13) (d := 25) rfl rfl rfl) rfl ?_
    refine dq.s rfl (wantU (g := 13) (d := 25) rfl rfl rfl) rfl ?_
    refine dq.s rfl (wantU (g := 13) (d := 25) rfl rfl rfl) rfl ?_
    refine dq.s rfl (wantU (g := 13) (d := 25) rfl rfl rfl) rfl ?_
    refine dq.s rfl (wantU (g := 13) (d := 25) rfl rfl rfl) rfl ?_
    refine dq.s rfl (wantU (g := 13) (d := 25) rfl rfl rfl) rfl ?_
    refine dq.s rfl (wantU (g := 13) (d := 25) rfl rfl rfl) rfl ?_
    refine dq.s rfl (wantU (g := 13) (d := 25) rfl rfl rfl) rfl ?_
    refine dq.s rfl (wantU (g := 13) (d := 25) rfl rfl rfl) rfl ?_
    refine dq.s rfl (wantF (g := 10) (d := 22) rfl rfl rfl) rfl ?_
    refine dq.c (v := .bool true) rfl (by kernel_rfl) rfl rfl rfl rfl ?_
    refine dq.e ?_
    refine AWp.condT rfl rfl ?_
    refine AWp.seq (AWp.rowV (l := _) pok ?_)
    refine sq.c (v := .bool false) rfl rfl rfl rfl ?_
    refine sq.e ?_
    refine AWp.ret ?_
    refine ⟨rfl, [.bool false], rfl, .bool false, rfl, hs, hn, ?_⟩
    show Value.bool false = .bool (mayB ls)
    rw [may_bad hx_x11 (.inr c4_7)]
  ·rw [c4_2]
   refine dq.c (v := .bool true) rfl (by kernel_rfl) rfl rfl rfl rfl ?_
   refine dq.c (v := .bool true) rfl (by kernel_rfl) rfl rfl rfl rfl ?_
   refine dq.s rfl (wantF (g := 4) (d := 16) rfl rfl rfl) rfl ?_
   refine dq.s rfl (wantF (g := 4) (d := 16) rfl rfl rfl) rfl ?_
   refine dq.s rfl (wantF (g := 4) (d := 16) rfl rfl rfl) rfl ?_
   refine dq.s rfl (wantF (g := 4) (d := 16) rfl rfl rfl) rfl ?_
   refine dq.c (v := .bool true) rfl (by kernel_rfl) rfl rfl rfl rfl ?_
   refine dq.c (v := .bool true) rfl (by kernel_rfl) rfl rfl rfl rfl ?_
   refine dq.s rfl (wantF (g := 10) (d := 22) rfl rfl rfl) rfl ?_
   refine dq.s rfl (wantF (g := 10) (d := 22) rfl rfl rfl) rfl ?_
   refine dq.s rfl (wantF (g := 10) (d := 22) rfl rfl rfl) rfl ?_
   refine dq.s rfl (wantU (g := 13) (d := 25) rfl rfl rfl) rfl ?_
   refine dq.s rfl (wantU (g := 13) (d := 25) rfl rfl rfl) rfl ?_
   refine dq.s rfl (wantU (g := 13) (d := 25) rfl rfl rfl) rfl ?_
   refine dq.s rfl (wantU (g := 13) (d := 25) rfl rfl rfl) rfl ?_
   refine dq.s rfl (wantU (g := 13) (d := 25) rfl rfl rfl) rfl ?_
   refine dq.s rfl (wantU (g := 13) (d := 25) rfl rfl rfl) rfl ?_
   refine dq.s rfl (wantU (g := 13) (d := 25) rfl rfl rfl) rfl ?_
   refine dq.s rfl (wantU (g := 13) (d := 25) rfl rfl rfl) rfl ?_
   refine dq.s rfl (wantU (g := 13) (d := 25) rfl rfl rfl) rfl ?_
   refine dq.s rfl (wantF (g := 10) (d := 22) rfl rfl rfl) rfl ?_
   refine dq.c (v := .bool true) rfl (by kernel_rfl) rfl rfl rfl rfl ?_
   refine dq.e ?_
   refine AWp.condT rfl rfl ?_
   refine AWp.seq (AWp.rowV (l := _) pok ?_)
   refine sq.c (v := .bool false) rfl rfl rfl rfl ?_
   refine sq.e ?_
   refine AWp.ret ?_
   refine ⟨rfl, [.bool false], rfl, .bool false, rfl, hs, hn, ?_⟩
   show Value.bool false = .bool (mayB ls)
   rw [may_bad hx_x11 (.inl c4_2)]
 ·rw [decide_eq_false c2_0]
  refine AWp.condF rfl rfl ?_
  refine AWp.exit ?_
  refine AWp.seq (AWp.rowV (l := _) pok ?_)
  refine sq.c (v := .slice a (ls.length) cp) rfl rfl rfl rfl ?_
  refine sq.c (v := .int .i64 (((ls.length : Nat) : Int))) rfl rfl (by kernel_rfl) rfl ?_
  refine sq.c (v := .bool (decide ((0 : Int) < (((ls.length : Nat) : Int))))) rfl rfl rfl rfl ?_
  refine sq.c (v := .bool (decide ((0 : Int) < (((ls.length : Nat) : Int))))) rfl rfl rfl rfl ?_
  by_cases c7_2 : (0 : Int) < (((ls.length : Nat) : Int))
  ·rw [decide_eq_true c7_2]
   refine sq.c (v := .slice a (ls.length) cp) (wantT (g := 3) (d := 41) rfl rfl rfl) rfl rfl rfl ?_
   refine sq.c (v := .int .i64 (((ls.length : Nat) : Int))) (wantT (g := 3) (d := 41) rfl rfl rfl) rfl (by kernel_rfl) rfl ?_
   refine sq.c (v := .bool (decide ((((ls.length : Nat) : Int)) ≤ (16 : Int)))) (wantT (g := 3) (d := 41) rfl rfl rfl) rfl rfl rfl ?_
   refine sq.c (v := .bool (decide ((((ls.length : Nat) : Int)) ≤ (16 : Int)))) rfl rfl rfl rfl ?_
   refine sq.c (v := .bool (decide ((((ls.length : Nat) : Int)) ≤ (16 : Int)))) rfl rfl rfl rfl ?_
   refine sq.e ?_
   refine AWp.ret ?_
   refine ⟨rfl, [.bool (decide ((((ls.length : Nat) : Int)) ≤ (16 : Int)))], rfl, .bool (decide ((((ls.length : Nat) : Int)) ≤ (16 : Int))), rfl, hs, hn, ?_⟩
   have hyes : ∀ j : Nat, j < ls.length → okAt ls j = true := fun j hj => hyes0 j (by omega)
   show Value.bool (decide ((((ls.length : Nat) : Int)) ≤ (16 : Int))) = .bool (mayB ls)
   rw [may_all hyes]; exact congrArg Value.bool (decide_eq_decide.2 (by omega))
  ·rw [decide_eq_false c7_2]
   refine sq.s (wantF (g := 3) (d := 41) rfl rfl rfl) rfl ?_
   refine sq.s (wantF (g := 3) (d := 41) rfl rfl rfl) rfl ?_
   refine sq.s (wantF (g := 3) (d := 41) rfl rfl rfl) rfl ?_
   refine sq.c (v := .bool false) rfl rfl rfl rfl ?_
   refine sq.c (v := .bool false) rfl rfl rfl rfl ?_
   refine sq.e ?_
   refine AWp.ret ?_
   refine ⟨rfl, [.bool false], rfl, .bool false, rfl, hs, hn, ?_⟩
   have hyes : ∀ j : Nat, j < ls.length → okAt ls j = true := fun j hj => hyes0 j (by omega)
   show Value.bool false = .bool (mayB ls)
   rw [may_len (by omega)]
theorem l27_spec {h : Heap} {n : Nat} {a a2 : Option Addr} {cp cp2 : Nat} (ls ms : List Lab) (hl : IsRow encLab h (.slice a ls.length cp) ls) (hm : IsRow encLab h (.slice a2 ms.length cp2) ms) (hlen : ls.length < 9223372036854775808) :
    Tells Tryd.prog 16 [.slice a (ls.length) cp, .slice a2 (ms.length) cp2] h n (.bool (decide (ls = ms))) := by
 refine Makes.tells (Makes.free fun hf => ?_)
 have hs : SubBut h h ([]) := .refl _ _
 have hn : n ≤ n := Nat.le_refl _
 have hf0 := hf
 refine Makes.of_bodyV (args := [.slice a (ls.length) cp, .slice a2 (ms.length) cp2]) (vs := [.slice a (ls.length) cp, .slice a2 (ms.length) cp2, undef, undef, undef, undef, undef, undef, undef, undef, undef, undef, undef, undef, undef, undef, undef, undef, undef, undef, undef, undef, undef, undef, undef, undef, undef, undef, undef, undef, undef, undef, undef, undef, undef, undef, undef, undef, undef, undef, undef]) Tryd.func16 rfl rfl ?_
 refine AWp.seq (AWp.rowV (l := _) pok ?_)
 refine sq.c (v := .bool false) rfl rfl rfl rfl ?_
 refine sq.e (AWp.seq (AWp.seq (AWp.rowV (l := _) pok ?_)))
 refine sq.c (v := .slice a (ls.length) cp) rfl rfl rfl rfl ?_
 refine sq.c (v := .int .i64 (((ls.length : Nat) : Int))) rfl rfl (by kernel_rfl) rfl ?_
 refine sq.c (v := .slice a2 (ms.length) cp2) rfl rfl rfl rfl ?_
 refine sq.c (v := .int .i64 (((ms.length : Nat) : Int))) rfl rfl (by kernel_rfl) rfl ?_
 refine sq.c (v := .bool (!decide ((((ls.length : Nat) : Int)) = (((ms.length : Nat) : Int))))) rfl rfl rfl rfl ?_
 refine sq.e ?_
 by_cases c1_4 : (((ls.length : Nat) : Int)) = (((ms.length : Nat) : Int))
 ·rw [decide_eq_true c1_4]
  refine AWp.condF rfl rfl ?_
  refine AWp.skip (AWp.seq (AWp.seq (AWp.rowV (l := _) pok ?_)))
  refine sq.c (v := .int .i64 (0)) rfl rfl rfl rfl ?_
  refine sq.e (AWp.block ?_)
  refine AWp.loopV (fun d vs h' n2 => ∃ (i : Int), d = ((ls.length : Nat) - i + 1).toNat ∧ h = h' ∧ n ≤ n2 ∧ Free h n2 ∧ (0 ≤ i) ∧ (i ≤ (ls.length : Nat)) ∧ (∀ j : Nat, (j : Int) < i → ls[j]? = ms[j]?) ∧ ∃ y1 : Nat → Value, vs = [.slice a (ls.length) cp, .slice a2 (ms.length) cp2, undef, undef, (y1 4), .int .i64 (i), .slice a (ls.length) cp, .int .i64 (((ls.length : Nat) : Int)), .slice a2 (ms.length) cp2, .int .i64 (((ms.length : Nat) : Int)), .bool false, (y1 11), (y1 12), (y1 13), (y1 14), (y1 15), (y1 16), (y1 17), (y1 18), (y1 19), (y1 20), (y1 21), (y1 22), (y1 23), (y1 24), (y1 25), (y1 26), (y1 27), (y1 28), (y1 29), (y1 30), (y1 31), (y1 32), (y1 33), (y1 34), (y1 35), (y1 36), (y1 37), (y1 38), (y1 39), (y1 40)]) (((ls.length : Nat) - (0 : Int) + 1).toNat) ⟨0, rfl, rfl, hn, hf, (by omega), (by omega), (fun j hj => by omega), getV [undef, undef, undef, undef, .bool false, undef, undef, undef, undef, undef, undef, undef, undef, undef, undef, undef, undef, undef, undef, undef, undef, undef, undef, undef, undef, undef, undef, undef, undef, undef, undef, undef, undef, undef, undef, undef, undef, undef, undef, undef, undef], rfl⟩ ?_
  rintro d vs h' n2 ⟨i, rfl, rfl, hn, hf, hi0, hi1, hyes, y1, rfl⟩
  refine AWp.seq (AWp.seq (AWp.rowV (l := _) pok ?_))
  refine sq.c (v := .int .i64 (i)) rfl rfl rfl rfl ?_
  refine sq.c (v := .slice a (ls.length) cp) rfl rfl rfl rfl ?_
  refine sq.c (v := .int .i64 (((ls.length : Nat) : Int))) rfl rfl (by kernel_rfl) rfl ?_
  refine sq.c (v := .bool (decide (i < (((ls.length : Nat) : Int))))) rfl rfl rfl rfl ?_
  refine sq.e ?_
  by_cases c4_3 : i < (((ls.length : Nat) : Int))
  ·rw [decide_eq_true c4_3]
   refine AWp.condT rfl rfl ?_
   refine AWp.skip (AWp.seq (AWp.block (AWp.seq ?_)))
   refine AWp.anyV pok [] [0, 1, 2, 3, 4, 5, 6, 7, 8, 9, 10, 11, 12, 13, 14, 15, 16, 17, 18, 19, 20, 21, 22, 23] (by kernel_rfl) (by kernel_rfl) rfl (fun x fr fr' h n hd _ q => ⟨hd ▸ q.1, q.2⟩) ?_
   refine dq.c (v := .slice a (ls.length) cp) rfl (by kernel_rfl) rfl rfl rfl rfl ?_
   refine dq.c (v := .int .i64 (i)) rfl (by kernel_rfl) rfl rfl rfl rfl ?_
   have i9 : (0 : Int) ≤ (i : Int) := by omega
   obtain ⟨x10, hx_x10⟩ : ∃ x, (ls)[((i : Int)).toNat]? = some x := ⟨_, List.getElem?_eq_getElem (by omega)⟩
   obtain ⟨b3, o4, cs_b3, ow_b3, ci_b3, ie8, hb5, hc6, hr7⟩ := IsRow.at (P := Tryd.prog) (t := 40) (e := 61) (k := .i64) (by kernel_rfl) (by kernel_rfl) (hl.keep hs) i9 hx_x10
   refine dq.c (v := .pointer (some ⟨b3, o4, none⟩)) rfl (by kernel_rfl) rfl rfl ie8 rfl ?_
   refine dq.c (v := .pointer (some ⟨b3, o4, none⟩)) rfl (by kernel_rfl) rfl rfl (by kernel_rfl) rfl ?_
   refine dq.g (v := .string (x10.1)) rfl (by kernel_rfl) rfl rfl (ld1 (P := Tryd.prog) (t := 9) (p := o4 + 0) (v := .string (x10.1)) (by kernel_rfl) (by kernel_rfl) hb5 (hc6 0 _ rfl)) rfl ?_
   refine dq.c (v := .slice a2 (ms.length) cp2) rfl (by kernel_rfl) rfl rfl rfl rfl ?_
   refine dq.c (v := .int .i64 (i)) rfl (by kernel_rfl) rfl rfl rfl rfl ?_
   have i17 : (0 : Int) ≤ (i : Int) := by omega
   obtain ⟨x18, hx_x18⟩ : ∃ x, (ms)[((i : Int)).toNat]? = some x := ⟨_, List.getElem?_eq_getElem (by omega)⟩
   obtain ⟨b11, o12, cs_b11, ow_b11, ci_b11, ie16, hb13, hc14, hr15⟩ := IsRow.at (P := Tryd.prog) (t := 40) (e := 61) (k := .i64) (by kernel_rfl) (by kernel_rfl) (hm.keep hs) i17 hx_x18
   refine dq.c (v := .pointer (some ⟨b11, o12, none⟩)) rfl (by kernel_rfl) rfl rfl ie16 rfl ?_
   refine dq.c (v := .pointer (some ⟨b11, o12, none⟩)) rfl (by kernel_rfl) rfl rfl (by kernel_rfl) rfl ?_
   refine dq.g (v := .string (x18.1)) rfl (by kernel_rfl) rfl rfl (ld1 (P := Tryd.prog) (t := 9) (p := o12 + 0) (v := .string (x18.1)) (by kernel_rfl) (by kernel_rfl) hb13 (hc14 0 _ rfl)) rfl ?_
   refine dq.c (v := .bool (!decide (x10.1 = x18.1))) rfl (by kernel_rfl) rfl rfl (neD _ _) rfl ?_
   refine dq.c (v := .bool (!decide (x10.1 = x18.1))) rfl (by kernel_rfl) rfl rfl rfl rfl ?_
   by_cases c6_10 : x10.1 = x18.1
   ·rw [decide_eq_true c6_10]
    refine dq.c (v := .slice a (ls.length) cp) rfl (by kernel_rfl) (wantT (g := 11) (d := 28) rfl rfl rfl) rfl rfl rfl ?_
    refine dq.c (v := .int .i64 (i)) rfl (by kernel_rfl) (wantT (g := 11) (d := 28) rfl rfl rfl) rfl rfl rfl ?_
    have i25 : (0 : Int) ≤ (i : Int) := by omega
    obtain ⟨b19, o20, cs_b19, ow_b19, ci_b19, ie24, hb21, hc22, hr23⟩ := IsRow.at (P := Tryd.prog) (t := 40) (e := 61) (k := .i64) (by kernel_rfl) (by kernel_rfl) (hl.keep hs) i25 hx_x10
    refine dq.c (v := .pointer (some ⟨b19, o20, none⟩)) rfl (by kernel_rfl) (wantT (g := 11) (d := 28) rfl rfl rfl) rfl ie24 rfl ?_
    refine dq.c (v := .pointer (some ⟨b19, o20 + 1, none⟩)) rfl (by kernel_rfl) (wantT (g := 11) (d := 28) rfl rfl rfl) rfl (by kernel_rfl) rfl ?_
    refine dq.g (v := .string (x10.2)) rfl (by kernel_rfl) (wantT (g := 11) (d := 28) rfl rfl rfl) rfl (ld1 (P := Tryd.prog) (t := 9) (p := o20 + 1) (v := .string (x10.2)) (by kernel_rfl) (by kernel_rfl) hb21 (hc22 1 _ rfl)) rfl ?_
    refine dq.c (v := .slice a2 (ms.length) cp2) rfl (by kernel_rfl) (wantT (g := 11) (d := 28) rfl rfl rfl) rfl rfl rfl ?_
    refine dq.c (v := .int .i64 (i)) rfl (by kernel_rfl) (wantT (g := 11) (d := 28) rfl rfl rfl) rfl rfl rfl ?_
    have i32 : (0 : Int) ≤ (i : Int) := by omega
    obtain ⟨b26, o27, cs_b26, ow_b26, ci_b26, ie31, hb28, hc29, hr30⟩ := IsRow.at (P := Tryd.prog) (t := 40) (e := 61) (k := .i64) (by kernel_rfl) (by kernel_rfl) (hm.keep hs) i32 hx_x18
    refine dq.c (v := .pointer (some ⟨b26, o27, none⟩)) rfl (by kernel_rfl) (wantT (g := 11) (d := 28) rfl rfl rfl) rfl ie31 rfl ?_
    refine dq.c (v := .pointer (some ⟨b26, o27 + 1, none⟩)) rfl (by kernel_rfl) (wantT (g := 11) (d := 28) rfl rfl rfl) rfl (by kernel_rfl) rfl ?_
    refine dq.g (v := .string (x18.2)) rfl (by kernel_rfl) (wantT (g := 11) (d := 28) rfl rfl rfl) rfl (ld1 (P := Tryd.prog) (t := 9) (p := o27 + 1) (v := .string (x18.2)) (by kernel_rfl) (by kernel_rfl) hb28 (hc29 1 _ rfl)) rfl ?_
    refine dq.c (v := .bool (!decide (x10.2 = x18.2))) rfl (by kernel_rfl) (wantT (g := 11) (d := 28) rfl rfl rfl) rfl (neD _ _) rfl ?_
    refine dq.c (v := .bool (!decide (x10.2 = x18.2))) rfl (by kernel_rfl) rfl rfl rfl rfl ?_
    refine dq.e ?_
    by_cases c6_22 : x10.2 = x18.2
    ·rw [decide_eq_true c6_22]
     refine AWp.condF rfl rfl ?_
     refine AWp.skip (AWp.rowV (l := _) pok ?_)
     refine sq.c (v := .int .i64 (i)) rfl rfl rfl rfl ?_
     refine sq.c (v := .int .i64 (i + 1)) rfl rfl (okI (wrap_i64 (by omega) (by omega))) rfl ?_
     refine sq.c (v := .int .i64 (i + 1)) rfl rfl rfl rfl ?_
     refine sq.e ?_
     have hy : ∀ j : Nat, (j : Int) < i + 1 → ls[j]? = ms[j]? := by
      intro j hj
      by_cases e : j = i.toNat
      ·rw [e, hx_x10, hx_x18, show x10 = x18 from Prod.ext c6_10 c6_22]
      ·exact hyes j (by omega)
     refine ⟨_, _, rfl, by omega, i + 1, rfl, rfl, hn, hf, (by omega), (by omega), (hy), getV [undef, undef, undef, undef, (y1 4), undef, undef, undef, undef, undef, undef, .int .i64 (i), .slice a (ls.length) cp, .int .i64 (((ls.length : Nat) : Int)), .bool true, .int .i64 (i), .int .i64 (i + 1), .slice a (ls.length) cp, .int .i64 (i), .pointer (some ⟨b3, o4, none⟩), .pointer (some ⟨b3, o4, none⟩), .string (x10.1), .slice a2 (ms.length) cp2, .int .i64 (i), .pointer (some ⟨b11, o12, none⟩), .pointer (some ⟨b11, o12, none⟩), .string (x18.1), .bool false, .bool false, .slice a (ls.length) cp, .int .i64 (i), .pointer (some ⟨b19, o20, none⟩), .pointer (some ⟨b19, o20 + 1, none⟩), .string (x10.2), .slice a2 (ms.length) cp2, .int .i64 (i), .pointer (some ⟨b26, o27, none⟩), .pointer (some ⟨b26, o27 + 1, none⟩), .string (x18.2), .bool false, .bool false], rfl⟩
    ·rw [decide_eq_false c6_22]
     refine AWp.condT rfl rfl ?_
     refine AWp.seq (AWp.rowV (l := _) pok ?_)
     refine sq.c (v := .bool false) rfl rfl rfl rfl ?_
     refine sq.e ?_
     refine AWp.ret ?_
     refine ⟨rfl, [.bool false], rfl, .bool false, rfl, hs, hn, ?_⟩
     show Value.bool false = .bool (decide (ls = ms))
     exact congrArg Value.bool (decide_eq_false (same_not hx_x10 hx_x18 (by intro e; rw [e] at c6_22; exact c6_22 rfl))).symm
   ·rw [decide_eq_false c6_10]
    refine dq.s rfl (wantF (g := 11) (d := 28) rfl rfl rfl) rfl ?_
    refine dq.s rfl (wantF (g := 11) (d := 28) rfl rfl rfl) rfl ?_
    refine dq.s rfl (wantF (g := 11) (d := 28) rfl rfl rfl) rfl ?_
    refine dq.s rfl (wantF (g := 11) (d := 28) rfl rfl rfl) rfl ?_
    refine dq.s rfl (wantF (g := 11) (d := 28) rfl rfl rfl) rfl ?_
    refine dq.s rfl (wantF (g := 11) (d := 28) rfl rfl rfl) rfl ?_
    refine dq.s rfl (wantF (g := 11) (d := 28) rfl rfl rfl) rfl ?_
    refine dq.s rfl (wantF (g := 11) (d := 28) rfl rfl rfl) rfl ?_
    refine dq.s rfl (wantF (g := 11) (d := 28) rfl rfl rfl) rfl ?_
    refine dq.s rfl (wantF (g := 11) (d := 28) rfl rfl rfl) rfl ?_
    refine dq.s rfl (wantF (g := 11) (d := 28) rfl rfl rfl) rfl ?_
    refine dq.c (v := .bool true) rfl (by kernel_rfl) rfl rfl rfl rfl ?_
    refine dq.e ?_
    refine AWp.condT rfl rfl ?_
    refine AWp.seq (AWp.rowV (l := _) pok ?_)
    refine sq.c (v := .bool false) rfl rfl rfl rfl ?_
    refine sq.e ?_
    refine AWp.ret ?_
    refine ⟨rfl, [.bool false], rfl, .bool false, rfl, hs, hn, ?_⟩
    show Value.bool false = .bool (decide (ls = ms))
    exact congrArg Value.bool (decide_eq_false (same_not hx_x10 hx_x18 (by intro e; rw [e] at c6_10; exact c6_10 rfl))).symm
  ·rw [decide_eq_false c4_3]
   refine AWp.condF rfl rfl ?_
   refine AWp.exit ?_
   refine AWp.seq (AWp.rowV (l := _) pok ?_)
   refine sq.c (v := .bool true) rfl rfl rfl rfl ?_
   refine sq.e ?_
   refine AWp.ret ?_
   refine ⟨rfl, [.bool true], rfl, .bool true, rfl, hs, hn, ?_⟩
   show Value.bool true = .bool (decide (ls = ms))
   exact congrArg Value.bool (decide_eq_true (same_all (Int.ofNat.inj c1_4) (fun j hj => hyes j (by omega)))).symm
 ·rw [decide_eq_false c1_4]
  refine AWp.condT rfl rfl ?_
  refine AWp.seq (AWp.rowV (l := _) pok ?_)
  refine sq.c (v := .bool false) rfl rfl rfl rfl ?_
  refine sq.e ?_
  refine AWp.ret ?_
  refine ⟨rfl, [.bool false], rfl, .bool false, rfl, hs, hn, ?_⟩
  show Value.bool false = .bool (decide (ls = ms))
  exact congrArg Value.bool (decide_eq_false (fun e => c1_4 (by rw [e]))).symm
theorem l73_spec {h : Heap} {n : Nat} {a : Option Addr} {cp : Nat} (bs : List UInt8) (m : Int) (R_b : OwnRow encByte 5 (Trie.nil : Heap) h (.slice a bs.length cp) bs) (hm0 : 0 ≤ m) (hm1 : m < 18446744073709551616) (hlb : bs.length < 1000000000000) :
    Makes Tryd.prog 73 [.slice a (bs.length) cp, .int .u64 (m)] h n ((blkOf (.slice a bs.length cp))) (fun v h2 _ => OwnRow encByte 5 (Trie.nil : Heap) h2 v (bs ++ uvar m.toNat) ∧ ∀ c ∈ blkOf v, c ∈ blkOf (.slice a bs.length cp) ∨ n ≤ c) := by
 refine Makes.free fun hf => ?_
 have B_b : ∀ c ∈ blkOf (.slice a bs.length cp), c ∈ blkOf (.slice a bs.length cp) ∨ n ≤ c := fun c hc => .inl hc
 have hlm := uvar_ten hm0 hm1
 have hs : SubBut h h ((blkOf (.slice a bs.length cp))) := .refl _ _
 have hn : n ≤ n := Nat.le_refl _
 have hf0 := hf
 refine Makes.of_bodyV (args := [.slice a (bs.length) cp, .int .u64 (m)]) (vs := [.slice a (bs.length) cp, .int .u64 (m), undef, undef, undef, undef, undef, undef, undef, undef, undef, undef, undef, undef, undef, undef, undef, undef, undef, undef]) Tryd.func73 rfl rfl ?_
 refine AWp.seq (AWp.rowV (l := _) pok ?_)
 refine sq.c (v := .slice none (0) (0)) rfl rfl rfl rfl ?_
 refine sq.e (AWp.seq (AWp.block ?_))
 refine AWp.loopV (fun d vs h2 n3 => ∃ (k : Int) (zs : List UInt8) (a_b : Option Addr) (cp_b : Nat), d = k.toNat ∧ SubBut h h2 ((blkOf (.slice a bs.length cp))) ∧ n ≤ n3 ∧ Free h2 n3 ∧ OwnRow encByte 5 (Trie.nil : Heap) h2 (.slice a_b (zs).length cp_b) (zs) ∧ (∀ c ∈ blkOf (.slice a_b (zs).length cp_b), c ∈ (blkOf (.slice a bs.length cp)) ∨ n ≤ c) ∧ (0 ≤ k) ∧ (k < 18446744073709551616) ∧ (zs ++ uvar k.toNat = bs ++ uvar m.toNat) ∧ ∃ y1 : Nat → Value, vs = [.slice a_b (zs.length) cp_b, .int .u64 (k), undef, undef, .slice none (0) (0), (y1 5), (y1 6), (y1 7), (y1 8), (y1 9), (y1 10), (y1 11), (y1 12), (y1 13), (y1 14), undef, undef, undef, undef, undef]) (m.toNat) ⟨m, bs, a, cp, rfl, hs, hn, hf, R_b, B_b, (by omega), (by omega), (rfl), getV [undef, undef, undef, undef, undef, undef, undef, undef, undef, undef, undef, undef, undef, undef, undef], rfl⟩ ?_
 rintro d vs h2 n3 ⟨k, zs, a_b, cp_b, rfl, hs, hn, hf, R_b, B_b, hk0, hk1, hq, y1, rfl⟩
 have hzl : zs.length + (uvar k.toNat).length = bs.length + (uvar m.toNat).length := by rw [← List.length_append, hq, List.length_append]
 refine AWp.seq (AWp.seq (AWp.rowV (l := _) pok ?_))
 refine sq.c (v := .int .u64 (k)) rfl rfl rfl rfl ?_
 refine sq.c (v := .bool (decide ((128 : Int) ≤ k))) rfl rfl rfl rfl ?_
 refine sq.e ?_
 by_cases c1_1 : (128 : Int) ≤ k
 ·rw [decide_eq_true c1_1]
  refine AWp.condT rfl rfl ?_
  refine AWp.skip (AWp.seq (AWp.block (AWp.rowV (l := _) pok ?_)))
  refine sq.c (v := .slice a_b (zs.length) cp_b) rfl rfl rfl rfl ?_
  refine sq.c (v := .int .u64 (k)) rfl rfl rfl rfl ?_
  refine sq.c (v := .int .u8 (((lo8 k).toNat : Int))) rfl rfl (Eq.trans (b := some (.int .u8 (IntKind.u8.wrap (k)))) (by kernel_rfl) (okI (wrap_lo8 (by omega)))) rfl ?_
  refine sq.c (v := .int .u8 (((hi8 (lo8 k)).toNat : Int))) rfl rfl (or_hi8 _) rfl ?_
  have d_b_n3 : ∀ c ∈ blkOf (.slice a_b (zs).length cp_b), c ≠ n3 := fun c hc e => R_b.ne' (hf _ (Nat.le_refl _)) c hc (List.mem_singleton.2 e)
  refine sq.op rfl rfl (Does.build (e := 5) (cs := [.int .u8 (((hi8 (lo8 k)).toNat : Int))]) hf (fun _ _ => by kernel_rfl)) ?_
  rintro _ h5 n6 ⟨rfl, hb4⟩ s7 hn2 hf
  refine sq.w ?_
  have R_b := R_b.keep s7
  have hs := hs.trans (s7.mono (by simp))
  have hn := Nat.le_trans hn hn2
  have hfo := hf
  have hFo := R_b.ours
  refine sq.op rfl rfl (Does.append (E := encByte) (xs := zs) (ys := [hi8 (lo8 k)]) appByte ⟨.slice 5, by kernel_rfl, fun _ q => by cases q⟩ hf (nil_sub h5 []) R_b (IsRow.of (E := encByte) (xs := [hi8 (lo8 k)]) (cap := 1) hb4 (Nat.le_refl _)) rfl rfl (by simp only [List.length_cons, List.length_nil]; omega) (by simp only [List.length_cons, List.length_nil]; omega) rfl) ?_
  rintro v11 h8 n9 ⟨R_b, _, hB12⟩ s10 hn2 hf
  have hs := hs.own B_b hf0 s10
  have B_b : ∀ c ∈ blkOf v11, c ∈ (blkOf (.slice a bs.length cp)) ∨ n ≤ c := fun c hc => (hB12 c hc).elim (B_b c) (fun q => .inr (q ▸ hn))
  refine sq.w ?_
  have dn_b_n3 : ∀ c ∈ blkOf v11, c ≠ n3 := fun c hc => (hB12 c hc).elim (fun q => d_b_n3 c q) (fun q => by rw [q]; exact (hfo.ne hb4).symm)
  have ours_s10 := hFo
  have hb4 := s10 _ _ (fun hm => d_b_n3 _ hm rfl) hb4
  have d_b_n3 := dn_b_n3
  obtain ⟨a13, cp14, rfl⟩ := R_b.slice
  have hn := Nat.le_trans hn hn2
  refine sq.c (v := .slice a13 (zs ++ [hi8 (lo8 k)]).length cp14) rfl rfl rfl rfl ?_
  refine sq.e (AWp.rowV (l := _) pok ?_)
  refine sq.c (v := .int .u64 (k)) rfl rfl rfl rfl ?_
  refine sq.c (v := .int .u64 (k / 128)) rfl rfl (okI (shr_lit (by rfl) (by decide))) rfl ?_
  refine sq.c (v := .int .u64 (k / 128)) rfl rfl rfl rfl ?_
  refine sq.e ?_
  refine ⟨_, _, rfl, by omega, k / 128, zs ++ [hi8 (lo8 k)], a13, cp14, rfl, hs, hn, hf, R_b, B_b, (by omega), (by omega), (by rw [← hq, uvar_ge (n := k) (by omega), List.append_assoc]; rfl), getV [undef, undef, undef, undef, undef, .int .u64 (k), .bool true, .int .u64 (k), .int .u64 (k / 128), .slice a_b (zs.length) cp_b, .int .u64 (k), .int .u8 (((lo8 k).toNat : Int)), .int .u8 (((hi8 (lo8 k)).toNat : Int)), .slice (some ⟨n3, 0, none⟩) (1) (1), .slice a13 (zs ++ [hi8 (lo8 k)]).length cp14], rfl⟩
 ·rw [decide_eq_false c1_1]
  refine AWp.condF rfl rfl ?_
  refine AWp.exit ?_
  refine AWp.seq (AWp.rowV (l := _) pok ?_)
  refine sq.c (v := .slice a_b (zs.length) cp_b) rfl rfl rfl rfl ?_
  refine sq.c (v := .int .u64 (k)) rfl rfl rfl rfl ?_
  refine sq.c (v := .int .u8 (((lo8 k).toNat : Int))) rfl rfl (Eq.trans (b := some (.int .u8 (IntKind.u8.wrap (k)))) (by kernel_rfl) (okI (wrap_lo8 (by omega)))) rfl ?_
  have d_b_n3 : ∀ c ∈ blkOf (.slice a_b (zs).length cp_b), c ≠ n3 := fun c hc e => R_b.ne' (hf _ (Nat.le_refl _)) c hc (List.mem_singleton.2 e)
  refine sq.op rfl rfl (Does.build (e := 5) (cs := [.int .u8 (((lo8 k).toNat : Int))]) hf (fun _ _ => by kernel_rfl)) ?_
  rintro _ h16 n17 ⟨rfl, hb15⟩ s18 hn2 hf
  refine sq.w ?_
  have R_b := R_b.keep s18
  have hs := hs.trans (s18.mono (by simp))
  have hn := Nat.le_trans hn hn2
  have hfo := hf
  have hFo := R_b.ours
  refine sq.op rfl rfl (Does.append (E := encByte) (xs := zs) (ys := [lo8 k]) appByte ⟨.slice 5, by kernel_rfl, fun _ q => by cases q⟩ hf (nil_sub h16 []) R_b (IsRow.of (E := encByte) (xs := [lo8 k]) (cap := 1) hb15 (Nat.le_refl _)) rfl rfl (by simp only [List.length_cons, List.length_nil]; omega) (by simp only [List.length_cons, List.length_nil]; omega) rfl) ?_
  rintro v22 h19 n20 ⟨R_b, _, hB23⟩ s21 hn2 hf
  have hs := hs.own B_b hf0 s21
  have B_b : ∀ c ∈ blkOf v22, c ∈ (blkOf (.slice a bs.length cp)) ∨ n ≤ c := fun c hc => (hB23 c hc).elim (B_b c) (fun q => .inr (q ▸ hn))
  refine sq.w ?_
  have dn_b_n3 : ∀ c ∈ blkOf v22, c ≠ n3 := fun c hc => (hB23 c hc).elim (fun q => d_b_n3 c q) (fun q => by rw [q]; exact (hfo.ne hb15).symm)
  have ours_s21 := hFo
  have hb15 := s21 _ _ (fun hm => d_b_n3 _ hm rfl) hb15
  have d_b_n3 := dn_b_n3
  obtain ⟨a24, cp25, rfl⟩ := R_b.slice
  have hn := Nat.le_trans hn hn2
  refine sq.c (v := .slice a24 (zs ++ [lo8 k]).length cp25) rfl rfl rfl rfl ?_
  refine sq.e ?_
  refine AWp.ret ?_
  refine ⟨rfl, [.slice a24 (zs ++ [lo8 k]).length cp25], rfl, .slice a24 (zs ++ [lo8 k]).length cp25, rfl, hs, hn, ?_⟩
  rw [uvar_lt (by omega)] at hq
  rw [← hq]
  exact ⟨R_b, B_b⟩
theorem l48_spec {h : Heap} {n : Nat} {a : Option Addr} {cp : Nat} (bs : List UInt8) (s : ByteArray) (R_b : OwnRow encByte 5 (Trie.nil : Heap) h (.slice a bs.length cp) bs) (hlb : bs.length < 100000000000) (hls : s.data.toList.length < 100000000000) :
    Makes Tryd.prog 60 [.slice a (bs.length) cp, .string (s)] h n ((blkOf (.slice a bs.length cp))) (fun v h2 _ => OwnRow encByte 5 (Trie.nil : Heap) h2 v (bs ++ txt s) ∧ ∀ c ∈ blkOf v, c ∈ blkOf (.slice a bs.length cp) ∨ n ≤ c) := by
 refine Makes.free fun hf => ?_
 have B_b : ∀ c ∈ blkOf (.slice a bs.length cp), c ∈ blkOf (.slice a bs.length cp) ∨ n ≤ c := fun c hc => .inl hc
 have hlt := txt_len s (by omega)
 have htx : txt s = uvar s.data.toList.length ++ s.data.toList := rfl
 rw [htx, List.length_append] at hlt
 have hs : SubBut h h ((blkOf (.slice a bs.length cp))) := .refl _ _
 have hn : n ≤ n := Nat.le_refl _
 have hf0 := hf
 refine Makes.of_bodyV (args := [.slice a (bs.length) cp, .string (s)]) (vs := [.slice a (bs.length) cp, .string (s), undef, undef, undef, undef, undef, undef, undef, undef, undef, undef]) Tryd.func60 rfl rfl ?_
 refine AWp.seq (AWp.rowV (l := _) pok ?_)
 refine sq.c (v := .slice none (0) (0)) rfl rfl rfl rfl ?_
 refine sq.e (AWp.seq (AWp.rowV (l := _) pok ?_))
 refine sq.c (v := .slice a (bs.length) cp) rfl rfl rfl rfl ?_
 refine sq.c (v := .string (s)) rfl rfl rfl rfl ?_
 refine sq.c (v := .int .i64 ((((s).data.toList.length : Nat) : Int))) rfl rfl (by kernel_rfl) rfl ?_
 refine sq.c (v := .int .u64 ((((s).data.toList.length : Nat) : Int))) rfl rfl (Eq.trans (b := some (.int .u64 (IntKind.u64.wrap ((((s).data.toList.length : Nat) : Int))))) (by kernel_rfl) (okI (wrap_u64 (by omega) (by omega)))) rfl ?_
 have hfo := hf
 refine sq.k rfl (CallsF.fn rfl (by kernel_rfl) rfl rfl) (l73_spec bs (s.data.toList.length : Int) R_b (by omega) (by omega) (by omega)) ?_
 rintro v1 h2 n3 ⟨R_u, hB_u⟩ s4 hn2 hf
 refine sq.w ?_
 have hs := hs.own B_b hf0 s4
 have B_u : ∀ c ∈ blkOf v1, c ∈ (blkOf (.slice a bs.length cp)) ∨ n ≤ c := fun c hc => (hB_u c hc).elim (B_b c) (fun q => .inr (Nat.le_trans hn q))
 obtain ⟨a_u0, cp_u0, rfl⟩ := R_u.slice
 have hn := Nat.le_trans hn hn2
 refine sq.c (v := .string (s)) rfl rfl rfl rfl ?_
 have hfo := hf
 have hFo := R_u.ours
 refine sq.op rfl rfl (Does.appendS (bs := bs ++ (uvar s.data.toList.length)) (x := s) appByte ⟨.string, by kernel_rfl, fun _ q => by cases q⟩ hf (nil_sub h2 []) R_u  rfl rfl (by simp only [List.length_append]; omega) (by simp only [List.length_append]; omega) rfl) ?_
 rintro v8 h5 n6 ⟨R_u, _, hB9⟩ s7 hn2 hf
 have hs := hs.own B_u hf0 s7
 have B_u : ∀ c ∈ blkOf v8, c ∈ (blkOf (.slice a bs.length cp)) ∨ n ≤ c := fun c hc => (hB9 c hc).elim (B_u c) (fun q => .inr (q ▸ hn))
 refine sq.w ?_
 have ours_s7 := hFo
 obtain ⟨a10, cp11, rfl⟩ := R_u.slice
 have hn := Nat.le_trans hn hn2
 refine sq.c (v := .slice a10 ((bs ++ (uvar s.data.toList.length)) ++ (s).data.toList).length cp11) rfl rfl rfl rfl ?_
 refine sq.e ?_
 refine AWp.ret ?_
 refine ⟨rfl, [.slice a10 ((bs ++ (uvar s.data.toList.length)) ++ (s).data.toList).length cp11], rfl, .slice a10 ((bs ++ (uvar s.data.toList.length)) ++ (s).data.toList).length cp11, rfl, hs, hn, ?_⟩
 rw [htx, ← List.append_assoc]
 exact ⟨R_u, B_u⟩
theorem l28_spec {h : Heap} {n : Nat} {a : Option Addr} {cp : Nat} (ls : List Lab) (hl : IsRow encLab h (.slice a ls.length cp) ls) (hlen : ls.length ≤ 1200) (hsz : ∀ x ∈ ls, x.1.data.toList.length < 6000 ∧ x.2.data.toList.length < 6000) :
    Tells Tryd.prog 35 [.slice a (ls.length) cp] h n (.string ⟨(keyB ls).toArray⟩) := by
 refine Makes.tells (Makes.free fun hf => ?_)
 have hs : SubBut h h ([]) := .refl _ _
 have hn : n ≤ n := Nat.le_refl _
 have hf0 := hf
 refine Makes.of_bodyV (args := [.slice a (ls.length) cp]) (vs := [.slice a (ls.length) cp, undef, undef, undef, undef, undef, undef, undef, undef, undef, undef, undef, undef, undef, undef, undef, undef, undef, undef, undef, undef, undef]) Tryd.func35 rfl rfl ?_
 refine AWp.seq (AWp.rowV (l := _) pok ?_)
 refine sq.c (v := .string (⟨#[]⟩)) rfl rfl rfl rfl ?_
 refine sq.e (AWp.seq (AWp.rowV (l := _) pok ?_))
 refine sq.c (v := .slice none (0) (0)) rfl rfl rfl rfl ?_
 refine sq.e (AWp.seq (AWp.seq (AWp.rowV (l := _) pok ?_)))
 refine sq.c (v := .slice a (ls.length) cp) rfl rfl rfl rfl ?_
 refine sq.c (v := .int .i64 (((ls.length : Nat) : Int))) rfl rfl (by kernel_rfl) rfl ?_
 refine sq.c (v := .int .i64 (0)) rfl rfl rfl rfl ?_
 refine sq.e (AWp.block ?_)
 refine AWp.loopV (fun d vs h2 n3 => ∃ (i : Int) (zs : List UInt8) (a_b : Option Addr) (cp_b : Nat), d = ((ls.length : Nat) - i + 1).toNat ∧ SubBut h h2 ([]) ∧ n ≤ n3 ∧ Free h2 n3 ∧ OwnRow encByte 5 (Trie.nil : Heap) h2 (.slice a_b (zs).length cp_b) (zs) ∧ (∀ c ∈ blkOf (.slice a_b (zs).length cp_b), c ∈ [] ∨ n ≤ c) ∧ (0 ≤ i) ∧ (i ≤ (ls.length : Nat)) ∧ (zs = keyB (ls.take i.toNat)) ∧ ∃ y1 : Nat → Value, vs = [.slice a (ls.length) cp, undef, .string (⟨#[]⟩), .slice a_b (zs.length) cp_b, undef, (y1 5), .slice a (ls.length) cp, .int .i64 (((ls.length : Nat) : Int)), .int .i64 (i), (y1 9), (y1 10), (y1 11), (y1 12), (y1 13), (y1 14), (y1 15), (y1 16), (y1 17), (y1 18), (y1 19), undef, undef]) (((ls.length : Nat) - (0 : Int) + 1).toNat) ⟨0, [], none, 0, rfl, hs, hn, hf, OwnRow.nil, (by simp [blkOf]), (by omega), (by omega), (rfl), getV [undef, undef, undef, undef, undef, undef, undef, undef, undef, undef, undef, undef, undef, undef, undef, undef, undef, undef, undef, undef], rfl⟩ ?_
 rintro d vs h2 n3 ⟨i, zs, a_b, cp_b, rfl, hs, hn, hf, R_b, B_b, hi0, hi1, hq, y1, rfl⟩
 have hzl : zs.length ≤ 1200 * 12100 := by
  rw [hq]
  refine Nat.le_trans (keyB_len _ fun x hx => hsz x (List.mem_of_mem_take hx)) (Nat.mul_le_mul_right _ ?_)
  rw [List.length_take]; omega
 refine AWp.seq (AWp.rowV (l := _) pok ?_)
 refine sq.c (v := .bool (decide (i < (((ls.length : Nat) : Int))))) rfl rfl rfl rfl ?_
 refine sq.e (AWp.seq ?_)
 by_cases c3_0 : i < (((ls.length : Nat) : Int))
 ·rw [decide_eq_true c3_0]
  refine AWp.condT rfl rfl ?_
  refine AWp.skip (AWp.seq (AWp.block (AWp.seq (AWp.rowV (l := _) pok ?_))))
  have i10 : (0 : Int) ≤ (i : Int) := by omega
  obtain ⟨x11, hx_x11⟩ : ∃ x, (ls)[((i : Int)).toNat]? = some x := ⟨_, List.getElem?_eq_getElem (by omega)⟩
  have g_x11 := hsz x11 (List.mem_of_getElem? hx_x11)
  have gt_x11 := txt_len x11.1 (by omega)
  obtain ⟨b4, o5, cs_b4, ow_b4, ci_b4, ie9, hb6, hc7, hr8⟩ := IsRow.at (P := Tryd.prog) (t := 40) (e := 61) (k := .i64) (by kernel_rfl) (by kernel_rfl) (hl.keep hs) i10 hx_x11
  refine sq.c (v := .pointer (some ⟨b4, o5, none⟩)) rfl rfl ie9 rfl ?_
  refine sq.c (v := .agg #[.string (x11.1), .string (x11.2)]) rfl rfl (ldR (P := Tryd.prog) (t := 61) (k := 2) (xs := [.string (x11.1), .string (x11.2)]) (by kernel_rfl) (by kernel_rfl) hr8) rfl ?_
  have d_b_n3 : ∀ c ∈ blkOf (.slice a_b (zs).length cp_b), c ≠ n3 := fun c hc e => R_b.ne' (hf _ (Nat.le_refl _)) c hc (List.mem_singleton.2 e)
  have z_n3 : h.get n3 = none := hf0 _ hn
  refine sq.op rfl rfl (Does.alloc (cs := [.string (⟨#[]⟩), .string (⟨#[]⟩)]) hf (z := .agg #[.string (⟨#[]⟩), .string (⟨#[]⟩)]) (by kernel_rfl) rfl) ?_
  rintro _ h13 n14 ⟨rfl, hb12⟩ s15 hn2 hf
  refine sq.w ?_
  have R_b := R_b.keep s15
  have hs := hs.trans s15
  have hn := Nat.le_trans hn hn2
  refine sq.op rfl rfl (Does.store (k := 2) (xs := [.string (x11.1), .string (x11.2)]) (cs' := [.string (x11.1), .string (x11.2)]) hf (by kernel_rfl) rfl rfl rfl hb12 rfl rfl (Nat.le_of_ble_eq_true rfl) rfl) ?_
  rintro _ h17 n18 ⟨rfl, hb16⟩ s19 hn2 hf
  refine sq.w0 ?_
  have R_b := R_b.but s19 (fun c hc hm => d_b_n3 c hc (List.mem_singleton.1 hm))
  have hs := hs.fresh z_n3 s19
  have hn := Nat.le_trans hn hn2
  refine sq.e ?_
  refine AWp.anyK pok [0, 1, 2, 4, 5, 3, 6, 7] (by kernel_rfl) (by kernel_rfl) rfl (fun x fr fr' h n hd _ q => ⟨hd ▸ q.1, q.2⟩) ?_
  refine dk.c (v := .slice a_b (zs.length) cp_b) rfl (by kernel_rfl) rfl rfl rfl rfl ?_
  refine dk.c (v := .pointer (some ⟨n3, 0, none⟩)) rfl (by kernel_rfl) rfl rfl (by kernel_rfl) rfl ?_
  refine dk.gB (v := .string (x11.1)) n3 rfl (by kernel_rfl) rfl rfl (fun _ q_ => (ld1 (P := Tryd.prog) (t := 9) (p := 0) (v := .string (x11.1)) (by kernel_rfl) (by kernel_rfl) (q_ _ hb16) rfl)) rfl ?_
  refine dk.c (v := .pointer (some ⟨n3, 1, none⟩)) rfl (by kernel_rfl) rfl rfl (by kernel_rfl) rfl ?_
  refine dk.gB (v := .string (x11.2)) n3 rfl (by kernel_rfl) rfl rfl (fun _ q_ => (ld1 (P := Tryd.prog) (t := 9) (p := 1) (v := .string (x11.2)) (by kernel_rfl) (by kernel_rfl) (q_ _ hb16) rfl)) rfl ?_
  have hfo := hf
  refine dk.k rfl (by kernel_rfl) rfl (CallsF.fn rfl (by kernel_rfl) rfl rfl) (l48_spec zs x11.1 R_b (by omega) (by omega)) (keepC (fun hm => d_b_n3 _ hm rfl) (keepC (fun hm => d_b_n3 _ hm rfl) keepN)) ?_
  rintro v20 h21 n22 ⟨R_p, hB_p⟩ s23 hn2 hf
  refine dk.w ?_
  have d_p_n3 : ∀ c ∈ blkOf v20, c ≠ n3 := fun c hc => (hB_p c hc).elim (fun q => d_b_n3 c q) (fun q e => by rw [e] at q; have := hfo _ q; rw [hb16] at this; cases this)
  have hs := hs.own B_b hf0 s23
  have B_p : ∀ c ∈ blkOf v20, c ∈ [] ∨ n ≤ c := fun c hc => (hB_p c hc).elim (B_b c) (fun q => .inr (Nat.le_trans hn q))
  have hb16 := s23 _ _ (fun hm => d_b_n3 _ hm rfl) hb16
  obtain ⟨a_p19, cp_p19, rfl⟩ := R_p.slice
  have hn := Nat.le_trans hn hn2
  have hfo := hf
  refine dk.k rfl (by kernel_rfl) rfl (CallsF.fn rfl (by kernel_rfl) rfl rfl) (l48_spec (zs ++ (txt x11.1)) x11.2 R_p (by rw [List.length_append]; omega) (by omega)) (keepC (fun hm => d_p_n3 _ hm rfl) (keepC (fun hm => d_p_n3 _ hm rfl) keepN)) ?_
  rintro v24 h25 n26 ⟨R_b, hB_b⟩ s27 hn2 hf
  refine dk.w ?_
  have hs := hs.own B_p hf0 s27
  have B_b : ∀ c ∈ blkOf v24, c ∈ [] ∨ n ≤ c := fun c hc => (hB_b c hc).elim (B_p c) (fun q => .inr (Nat.le_trans hn q))
  have hb16 := s27 _ _ (fun hm => d_p_n3 _ hm rfl) hb16
  obtain ⟨a_b23, cp_b23, rfl⟩ := R_b.slice
  have hn := Nat.le_trans hn hn2
  refine dk.c (v := .slice a_b23 ((zs ++ (txt x11.1)) ++ (txt x11.2)).length cp_b23) rfl (by kernel_rfl) rfl rfl rfl rfl ?_
  refine dk.e (AWp.rowV (l := _) pok ?_)
  refine sq.c (v := .int .i64 (i + 1)) rfl rfl (okI (wrap_i64 (by omega) (by omega))) rfl ?_
  refine sq.c (v := .int .i64 (i + 1)) rfl rfl rfl rfl ?_
  refine sq.e ?_
  have hst := keyB_step hx_x11
  rw [show i.toNat + 1 = (i + 1).toNat by omega, ← hq, ← List.append_assoc] at hst
  refine ⟨_, _, rfl, by omega, i + 1, (zs ++ txt x11.1) ++ txt x11.2, a_b23, cp_b23, rfl, hs, hn, hf, R_b, B_b, (by omega), (by omega), (hst.symm), getV [undef, undef, undef, undef, undef, .pointer (some ⟨n3, 0, none⟩), undef, undef, undef, .bool true, .pointer (some ⟨b4, o5, none⟩), .agg #[.string (x11.1), .string (x11.2)], .slice a_b (zs.length) cp_b, .pointer (some ⟨n3, 0, none⟩), .string (x11.1), .slice a_p19 (zs ++ (txt x11.1)).length cp_p19, .pointer (some ⟨n3, 1, none⟩), .string (x11.2), .slice a_b23 ((zs ++ (txt x11.1)) ++ (txt x11.2)).length cp_b23, .int .i64 (i + 1)], rfl⟩
 ·rw [decide_eq_false c3_0]
  refine AWp.condF rfl rfl ?_
  refine AWp.exit ?_
  refine AWp.seq (AWp.rowV (l := _) pok ?_)
  refine sq.c (v := .slice a_b (zs.length) cp_b) rfl rfl rfl rfl ?_
  refine sq.c (v := .string (⟨(zs).toArray⟩)) rfl rfl (strOf_row (P := Tryd.prog) (a := 110) (b := 9) (e := 5) (by kernel_rfl) (by kernel_rfl) (by kernel_rfl) (by kernel_rfl) R_b.is) rfl ?_
  refine sq.c (v := .string (⟨(zs).toArray⟩)) rfl rfl rfl rfl ?_
  refine sq.e ?_
  refine AWp.ret ?_
  refine ⟨rfl, [.string (⟨(zs).toArray⟩)], rfl, .string (⟨(zs).toArray⟩), rfl, hs, hn, ?_⟩
  rw [show i.toNat = ls.length by omega, List.take_length] at hq
  rw [hq]
theorem l52_some {h : Heap} {n : Nat} {b o cp : Nat} (ls : List Lab) (hl : IsRow encLab h (.slice (some ⟨b, o, none⟩) ls.length cp) ls) (hlen : ls.length < 1000000) :
    Makes Tryd.prog 31 [.slice (some ⟨b, o, none⟩) (ls.length) cp] h n ([]) (fun v h2 _ => OwnRow encLab 61 h h2 v ls) := by
 refine Makes.free fun hf => ?_
 have hs : SubBut h h ([]) := .refl _ _
 have hn : n ≤ n := Nat.le_refl _
 have hf0 := hf
 refine Makes.of_bodyV (args := [.slice (some ⟨b, o, none⟩) (ls.length) cp]) (vs := [.slice (some ⟨b, o, none⟩) (ls.length) cp, undef, undef, undef, undef, undef, undef, undef]) Tryd.func31 rfl rfl ?_
 refine AWp.seq (AWp.rowV (l := _) pok ?_)
 refine sq.c (v := .slice none (0) (0)) rfl rfl rfl rfl ?_
 refine sq.e (AWp.seq (AWp.seq (AWp.rowV (l := _) pok ?_)))
 refine sq.c (v := .slice (some ⟨b, o, none⟩) (ls.length) cp) rfl rfl rfl rfl ?_
 refine sq.c (v := .bool false) rfl rfl (by kernel_rfl) rfl ?_
 refine sq.e ?_
 refine AWp.condF rfl rfl ?_
 refine AWp.skip (AWp.seq (AWp.rowV (l := _) pok ?_))
 refine sq.op rfl rfl (Does.build (e := 61) (cs := []) hf (fun _ _ => by kernel_rfl)) ?_
 rintro _ h2 n3 ⟨rfl, hb1⟩ s4 hn2 hf
 refine sq.w ?_
 have hs := hs.trans s4
 have hn := Nat.le_trans hn hn2
 refine sq.c (v := .slice (some ⟨b, o, none⟩) (ls.length) cp) rfl rfl rfl rfl ?_
 have hz0 : h.get n3 = none := hf0 _ hn
 have hfo := hf
 refine sq.op rfl rfl (Does.append (E := encLab) (xs := []) (ys := ls) appLab ⟨.slice 61, by kernel_rfl, fun _ q => by cases q⟩ hf hs (.inl ⟨rfl, .inr ⟨_, _, rfl⟩⟩) (hl.keep hs) rfl rfl (by simp only [List.length_nil]; omega) (by simp only [List.length_nil]; omega) hz0) ?_
 rintro v8 h5 n6 ⟨R_o, hs, hB9⟩ s7 hn2 hf
 refine sq.w ?_
 simp only [List.nil_append] at R_o
 have dn_o_n : ∀ c ∈ blkOf v8, c ≠ n := fun c hc => (hB9 c hc).elim (fun q => absurd q (by simp [blkOf])) (fun q => by rw [q]; exact (hfo.ne hb1).symm)
 have s7 : SubBut _ _ [] := s7.mono (by simp [blkOf])
 have d_o_n := dn_o_n
 obtain ⟨a10, cp11, rfl⟩ := R_o.slice
 have hn := Nat.le_trans hn hn2
 refine sq.c (v := .slice a10 (ls).length cp11) rfl rfl rfl rfl ?_
 refine sq.e ?_
 refine AWp.ret ?_
 refine ⟨rfl, [.slice a10 (ls).length cp11], rfl, .slice a10 (ls).length cp11, rfl, hs, hn, ?_⟩
 exact R_o
theorem l52_nil {h : Heap} {n : Nat}  :
    Makes Tryd.prog 31 [.slice none (0) (0)] h n ([]) (fun v h2 _ => OwnRow encLab 61 h h2 v []) := by
 refine Makes.free fun hf => ?_
 have hs : SubBut h h ([]) := .refl _ _
 have hn : n ≤ n := Nat.le_refl _
 have hf0 := hf
 refine Makes.of_bodyV (args := [.slice none (0) (0)]) (vs := [.slice none (0) (0), undef, undef, undef, undef, undef, undef, undef]) Tryd.func31 rfl rfl ?_
 refine AWp.seq (AWp.rowV (l := _) pok ?_)
 refine sq.c (v := .slice none (0) (0)) rfl rfl rfl rfl ?_
 refine sq.e (AWp.seq (AWp.seq (AWp.rowV (l := _) pok ?_)))
 refine sq.c (v := .slice none (0) (0)) rfl rfl rfl rfl ?_
 refine sq.c (v := .bool true) rfl rfl (by kernel_rfl) rfl ?_
 refine sq.e ?_
 refine AWp.condT rfl rfl ?_
 refine AWp.seq (AWp.rowV (l := _) pok ?_)
 refine sq.c (v := .slice none (0) (0)) rfl rfl rfl rfl ?_
 refine sq.e ?_
 refine AWp.ret ?_
 refine ⟨rfl, [.slice none (0) (0)], rfl, .slice none (0) (0), rfl, hs, hn, ?_⟩
 exact OwnRow.nil
def mayT (t : Int) : Bool := decide (0 ≤ t ∧ t ≤ 1125899906842624)
def cmpI (x y : Int) : Int := if x < y then -1 else if y < x then 1 else 0
theorem cmpI_lt {x y : Int} : cmpI x y < 0 ↔ x < y := by unfold cmpI; split <;> (try split) <;> omega
theorem cmpI_eq {x y : Int} : cmpI x y = 0 ↔ x = y := by unfold cmpI; split <;> (try split) <;> omega
def okS (xs : List Samp) (i : Nat) : Bool := mayT (xs.getD i (0, 0)).1 && (decide (i = 0) || decide ((xs.getD (i - 1) (0, 0)).1 < (xs.getD i (0, 0)).1))
def mayS (xs : List Samp) : Bool := (List.range xs.length).all (okS xs)
theorem mayS_iff {xs : List Samp} : mayS xs = true ↔ (∀ x ∈ xs, mayT x.1 = true) ∧ xs.Pairwise fun a b => a.1 < b.1 := by
  unfold mayS
  rw [List.all_eq_true]
  constructor
  · intro h
    have hk : ∀ i (hi : i < xs.length), okS xs i = true := fun i hi => h i (List.mem_range.2 hi)
    have hm : ∀ i (hi : i < xs.length), mayT xs[i].1 = true := by
      intro i hi
      have := hk i hi
      unfold okS at this
      rw [getD_of (List.getElem?_eq_getElem hi)] at this
      simp only [Bool.and_eq_true] at this
      exact this.1
    refine ⟨fun x hx => ?_, ?_⟩
    · obtain ⟨i, hi, rfl⟩ := List.getElem_of_mem hx
      exact hm i hi
    · rw [List.pairwise_iff_getElem]
      intro i j hi hj hij
      induction j with
      | zero => omega
      | succ j ih =>
        have h2 := hk (j + 1) hj
        unfold okS at h2
        rw [Nat.add_sub_cancel, getD_of (List.getElem?_eq_getElem hj), getD_of (List.getElem?_eq_getElem (show j < xs.length by omega))] at h2
        simp only [Bool.and_eq_true, Bool.or_eq_true, decide_eq_true_eq] at h2
        have h3 : (xs[j]'(by omega)).1 < xs[j + 1].1 := h2.2.resolve_left (by omega)
        by_cases e : i = j
        · subst e; exact h3
        · have := ih (by omega) (by omega)
          omega
  · rintro ⟨h1, h2⟩ i hi
    rw [List.mem_range] at hi
    unfold okS
    rw [getD_of (List.getElem?_eq_getElem hi), h1 _ (List.getElem_mem hi)]
    by_cases e : i = 0
    · simp [e]
    · have hlt : i - 1 < xs.length := by omega
      rw [getD_of (List.getElem?_eq_getElem hlt)]
      have := List.pairwise_iff_getElem.1 h2 (i - 1) i hlt hi (by omega)
      simp [this]
theorem okS_of {xs : List Samp} {i : Nat} {x y : Samp} (hx : xs[i]? = some x) (hy : i ≠ 0 → xs[i - 1]? = some y) : okS xs i = (mayT x.1 && (decide (i = 0) || decide (y.1 < x.1))) := by
  unfold okS
  rw [getD_of hx]
  by_cases h : i = 0
  · rw [decide_eq_true h, Bool.true_or, Bool.true_or]
  · rw [getD_of (hy h)]
theorem mayS_bad {xs : List Samp} {i : Nat} {x : Samp} (hx : xs[i]? = some x) (hb : mayT x.1 = false) : mayS xs = false := by
  have hlt := (List.getElem?_eq_some_iff.1 hx).1
  unfold mayS
  exact all_range_false hlt (by unfold okS; rw [getD_of hx, hb]; rfl)
theorem mayS_row {xs : List Samp} {i : Nat} {x y : Samp} (hx : xs[i]? = some x) (h0 : i ≠ 0) (hy : xs[i - 1]? = some y) (hb : x.1 ≤ y.1) : mayS xs = false := by
  have hlt := (List.getElem?_eq_some_iff.1 hx).1
  unfold mayS
  exact all_range_false hlt (by rw [okS_of hx (fun _ => hy), decide_eq_false h0, decide_eq_false (by omega)]; simp)
def low (xs : List Samp) (t : Int) : Nat := (xs.takeWhile fun x => decide (x.1 < t)).length
def hit (xs : List Samp) (t : Int) : Bool := match xs[low xs t]? with
  | some x => decide (x.1 = t)
  | none => false
theorem low_le (xs : List Samp) (t : Int) : low xs t ≤ xs.length := by
  unfold low
  have := (List.takeWhile_sublist (fun x : Samp => decide (x.1 < t)) (l := xs)).length_le
  exact this
theorem low_of {xs : List Samp} {t : Int} : ∀ {i : Nat}, i ≤ xs.length → (∀ (k : Nat) (x : Samp), k < i → xs[k]? = some x → x.1 < t) → (∀ x, xs[i]? = some x → t ≤ x.1) → low xs t = i := by
  unfold low
  induction xs with
  | nil => intro i hi _ _; simp at hi; simp [hi]
  | cons a xs ih =>
    intro i hi h1 h2
    cases i with
    | zero =>
      have := h2 a rfl
      rw [List.takeWhile_cons, if_neg (by simp; omega)]; rfl
    | succ i =>
      have := h1 0 a (by omega) rfl
      rw [List.takeWhile_cons, if_pos (by simpa using this), List.length_cons, ih (by simpa using hi) (fun k x hk hx => h1 (k + 1) x (by omega) (by simpa using hx)) (fun x hx => h2 x (by simpa using hx))]
theorem rise_lt {xs : List Samp} (h : xs.Pairwise fun a b => a.1 < b.1) {i j : Nat} {x y : Samp} (hij : i < j) (hx : xs[i]? = some x) (hy : xs[j]? = some y) : x.1 < y.1 := by
  obtain ⟨h1, rfl⟩ := List.getElem?_eq_some_iff.1 hx
  obtain ⟨h2, rfl⟩ := List.getElem?_eq_some_iff.1 hy
  exact List.pairwise_iff_getElem.1 h i j h1 h2 hij
def judge (xs : List Samp) (s : Samp) : Int := if mayT s.1 = false then 4 else match xs[low xs s.1]? with
  | some x => if x.1 = s.1 then (if x.2 = s.2 then 2 else 3) else 4
  | none => 1
def putS : List Samp → List Samp → List Samp × List Int
  | xs, [] => (xs, [])
  | xs, y :: ys => if judge xs y = 1 then ((putS (xs ++ [y]) ys).1, 1 :: (putS (xs ++ [y]) ys).2) else ((putS xs ys).1, judge xs y :: (putS xs ys).2)
theorem putS_snoc : ∀ (ys : List Samp) (xs : List Samp) (y : Samp), putS xs (ys ++ [y]) = if judge (putS xs ys).1 y = 1 then ((putS xs ys).1 ++ [y], (putS xs ys).2 ++ [1]) else ((putS xs ys).1, (putS xs ys).2 ++ [judge (putS xs ys).1 y])
  | [], xs, y => by by_cases h : judge xs y = 1 <;> simp [putS, h]
  | z :: ys, xs, y => by
    by_cases h : judge xs z = 1
    · have e : ∀ l, putS xs (z :: l) = ((putS (xs ++ [z]) l).1, 1 :: (putS (xs ++ [z]) l).2) := fun l => by simp [putS, h]
      simp only [List.cons_append, e, putS_snoc ys (xs ++ [z]) y]
      by_cases h2 : judge (putS (xs ++ [z]) ys).1 y = 1 <;> simp [h2]
    · have e : ∀ l, putS xs (z :: l) = ((putS xs l).1, judge xs z :: (putS xs l).2) := fun l => by simp [putS, h]
      simp only [List.cons_append, e, putS_snoc ys xs y]
      by_cases h2 : judge (putS xs ys).1 y = 1 <;> simp [h2]
theorem putS_len : ∀ (ys : List Samp) (xs : List Samp), (putS xs ys).2.length = ys.length ∧ (putS xs ys).1.length ≤ xs.length + ys.length
  | [], xs => by simp [putS]
  | y :: ys, xs => by
    simp only [putS]
    split
    · have := putS_len ys (xs ++ [y]); simp only [List.length_append, List.length_cons, List.length_nil] at this ⊢; omega
    · have := putS_len ys xs; simp only [List.length_cons] at this ⊢; omega
theorem judge_rise {xs : List Samp} (h : mayS xs = true) {y : Samp} (hj : judge xs y = 1) : mayS (xs ++ [y]) = true := by
  rw [mayS_iff] at h ⊢
  unfold judge at hj
  split at hj
  · omega
  · rename_i hm
    split at hj
    · split at hj
      · split at hj <;> omega
      · omega
    · rename_i hnone
      have hl := low_le xs y.1
      rw [List.getElem?_eq_none_iff] at hnone
      have hle : low xs y.1 = xs.length := by omega
      refine ⟨fun x hx => ?_, ?_⟩
      · rcases List.mem_append.1 hx with hx | hx
        · exact h.1 x hx
        · rw [List.mem_singleton] at hx; subst hx; simpa using hm
      · rw [List.pairwise_append]
        refine ⟨h.2, by simp, fun a ha b hb => ?_⟩
        rw [List.mem_singleton] at hb
        subst hb
        have ht : xs.takeWhile (fun x => decide (x.1 < b.1)) = xs := by
          refine List.IsPrefix.eq_of_length (List.takeWhile_prefix _) hle
        rw [← ht] at ha
        simpa using List.all_eq_true.1 List.all_takeWhile _ ha
theorem putS_may : ∀ (ys : List Samp) (xs : List Samp), mayS xs = true → mayS (putS xs ys).1 = true
  | [], xs, h => h
  | y :: ys, xs, h => by
    simp only [putS]
    split
    · rename_i hj; exact putS_may ys _ (judge_rise h hj)
    · exact putS_may ys xs h
def encVer : Enc Int := ⟨1, fun x => [.int .u8 x], fun _ => rfl, by decide⟩
theorem appVer : AppT Tryd.prog encVer 105 108 1 := ⟨by kernel_rfl, by kernel_rfl, by kernel_rfl, fun _ => rfl⟩
theorem smpB (x y : Samp) : (x.1 == y.1 && (x.2 == y.2 && true)) = decide (x = y) := by
  rw [Bool.eq_iff_iff]
  simp only [Bool.and_true, Bool.and_eq_true, beq_iff_eq, decide_eq_true_eq]
  exact ⟨fun ⟨a, b⟩ => Prod.ext a b, fun e => by rw [e]; exact ⟨rfl, rfl⟩⟩
theorem smpNe (x y : Samp) : binE Tryd.prog .neq 53 false false (.agg #[.int .i64 x.1, .int .u64 x.2]) (.agg #[.int .i64 y.1, .int .u64 y.2]) = some (.bool (!decide (x = y))) := by
  rw [binE_neq (b := x.1 == y.1 && (x.2 == y.2 && true)) Tryd.underlying53 (by kernel_rfl) (by kernel_rfl) rfl rfl (by kernel_rfl), smpB]
theorem mayT_spec {h : Heap} {n : Nat} (t : Int) :
    Tells Tryd.prog 74 [.int .i64 (t)] h n (.bool (mayT t)) := by
 refine Makes.tells (Makes.free fun hf => ?_)
 have hs : SubBut h h ([]) := .refl _ _
 have hn : n ≤ n := Nat.le_refl _
 have hf0 := hf
 refine Makes.of_bodyV (args := [.int .i64 (t)]) (vs := [.int .i64 (t), undef, undef, undef, undef, undef, undef, undef, undef]) Tryd.func74 rfl rfl ?_
 refine AWp.seq (AWp.rowV (l := _) pok ?_)
 refine sq.c (v := .bool false) rfl rfl rfl rfl ?_
 refine sq.e (AWp.seq (AWp.rowV (l := _) pok ?_))
 refine sq.c (v := .int .i64 (t)) rfl rfl rfl rfl ?_
 refine sq.c (v := .bool (decide ((0 : Int) ≤ t))) rfl rfl rfl rfl ?_
 refine sq.c (v := .bool (decide ((0 : Int) ≤ t))) rfl rfl rfl rfl ?_
 by_cases c1_1 : (0 : Int) ≤ t
 ·rw [decide_eq_true c1_1]
  refine sq.c (v := .int .i64 (t)) (wantT (g := 2) (d := 5) rfl rfl rfl) rfl rfl rfl ?_
  refine sq.c (v := .bool (decide (t ≤ (1125899906842624 : Int)))) (wantT (g := 2) (d := 5) rfl rfl rfl) rfl rfl rfl ?_
  refine sq.c (v := .bool (decide (t ≤ (1125899906842624 : Int)))) rfl rfl rfl rfl ?_
  refine sq.c (v := .bool (decide (t ≤ (1125899906842624 : Int)))) rfl rfl rfl rfl ?_
  refine sq.e ?_
  refine AWp.ret ?_
  refine ⟨rfl, [.bool (decide (t ≤ (1125899906842624 : Int)))], rfl, .bool (decide (t ≤ (1125899906842624 : Int))), rfl, hs, hn, ?_⟩
  show Value.bool (decide (t ≤ (1125899906842624 : Int))) = .bool (mayT t)
  unfold mayT
  exact congrArg Value.bool (decide_eq_decide.2 (by omega))
 ·rw [decide_eq_false c1_1]
  refine sq.s (wantF (g := 2) (d := 5) rfl rfl rfl) rfl ?_
  refine sq.s (wantF (g := 2) (d := 5) rfl rfl rfl) rfl ?_
  refine sq.c (v := .bool false) rfl rfl rfl rfl ?_
  refine sq.c (v := .bool false) rfl rfl rfl rfl ?_
  refine sq.e ?_
  refine AWp.ret ?_
  refine ⟨rfl, [.bool false], rfl, .bool false, rfl, hs, hn, ?_⟩
  show Value.bool false = .bool (mayT t)
  unfold mayT
  exact congrArg Value.bool (decide_eq_false (by omega)).symm
theorem bad_spec {h : Heap} {n : Nat} (v : Int) :
    Tells Tryd.prog 57 [.int .u8 (v)] h n (.bool (decide (v = 3 ∨ v = 4))) := by
 refine Makes.tells (Makes.free fun hf => ?_)
 have hs : SubBut h h ([]) := .refl _ _
 have hn : n ≤ n := Nat.le_refl _
 have hf0 := hf
 refine Makes.of_bodyV (args := [.int .u8 (v)]) (vs := [.int .u8 (v), undef, undef, undef, undef, undef, undef, undef, undef]) Tryd.func57 rfl rfl ?_
 refine AWp.seq (AWp.rowV (l := _) pok ?_)
 refine sq.c (v := .bool false) rfl rfl rfl rfl ?_
 refine sq.e (AWp.seq (AWp.rowV (l := _) pok ?_))
 refine sq.c (v := .int .u8 (v)) rfl rfl rfl rfl ?_
 refine sq.c (v := .bool (decide (v = (3 : Int)))) rfl rfl rfl rfl ?_
 refine sq.c (v := .bool (decide (v = (3 : Int)))) rfl rfl rfl rfl ?_
 by_cases c1_1 : v = (3 : Int)
 ·rw [decide_eq_true c1_1]
  refine sq.s (wantF (g := 2) (d := 5) rfl rfl rfl) rfl ?_
  refine sq.s (wantF (g := 2) (d := 5) rfl rfl rfl) rfl ?_
  refine sq.c (v := .bool true) rfl rfl rfl rfl ?_
  refine sq.c (v := .bool true) rfl rfl rfl rfl ?_
  refine sq.e ?_
  refine AWp.ret ?_
  refine ⟨rfl, [.bool true], rfl, .bool true, rfl, hs, hn, ?_⟩
  show Value.bool true = .bool (decide (v = 3 ∨ v = 4))
  exact congrArg Value.bool (decide_eq_true (by omega)).symm
 ·rw [decide_eq_false c1_1]
  refine sq.c (v := .int .u8 (v)) (wantT (g := 2) (d := 5) rfl rfl rfl) rfl rfl rfl ?_
  refine sq.c (v := .bool (decide (v = (4 : Int)))) (wantT (g := 2) (d := 5) rfl rfl rfl) rfl rfl rfl ?_
  refine sq.c (v := .bool (decide (v = (4 : Int)))) rfl rfl rfl rfl ?_
  refine sq.c (v := .bool (decide (v = (4 : Int)))) rfl rfl rfl rfl ?_
  refine sq.e ?_
  refine AWp.ret ?_
  refine ⟨rfl, [.bool (decide (v = (4 : Int)))], rfl, .bool (decide (v = (4 : Int))), rfl, hs, hn, ?_⟩
  show Value.bool (decide (v = (4 : Int))) = .bool (decide (v = 3 ∨ v = 4))
  exact congrArg Value.bool (decide_eq_decide.2 (by omega))
theorem nanI_spec {h : Heap} {n : Nat} (x : Int) :
    Tells Tryd.prog 99 [.int .i64 (x)] h n (.bool false) := by
 refine Makes.tells (Makes.free fun hf => ?_)
 have hs : SubBut h h ([]) := .refl _ _
 have hn : n ≤ n := Nat.le_refl _
 have hf0 := hf
 refine Makes.of_bodyV (args := [.int .i64 (x)]) (vs := [.int .i64 (x), undef, undef, undef, undef, undef]) Tryd.func99 rfl rfl ?_
 refine AWp.seq (AWp.rowV (l := _) pok ?_)
 refine sq.c (v := .bool false) rfl rfl rfl rfl ?_
 refine sq.e (AWp.seq (AWp.rowV (l := _) pok ?_))
 refine sq.c (v := .int .i64 (x)) rfl rfl rfl rfl ?_
 refine sq.c (v := .int .i64 (x)) rfl rfl rfl rfl ?_
 refine sq.c (v := .bool (!decide (x = x))) rfl rfl rfl rfl ?_
 refine sq.c (v := .bool (!decide (x = x))) rfl rfl rfl rfl ?_
 refine sq.e ?_
 refine AWp.ret ?_
 refine ⟨rfl, [.bool (!decide (x = x))], rfl, .bool (!decide (x = x)), rfl, hs, hn, ?_⟩
 exact congrArg Value.bool (by simp)
theorem cmpI_spec {h : Heap} {n : Nat} (x y : Int) :
    Tells Tryd.prog 97 [.int .i64 (x), .int .i64 (y)] h n (.int .i64 (cmpI x y)) := by
 refine Makes.tells (Makes.free fun hf => ?_)
 have hs : SubBut h h ([]) := .refl _ _
 have hn : n ≤ n := Nat.le_refl _
 have hf0 := hf
 refine Makes.of_bodyV (args := [.int .i64 (x), .int .i64 (y)]) (vs := [.int .i64 (x), .int .i64 (y), undef, undef, undef, undef, undef, undef, undef, undef, undef, undef, undef, undef, undef, undef, undef, undef, undef, undef]) Tryd.func97 rfl rfl ?_
 refine AWp.seq (AWp.rowV (l := _) pok ?_)
 refine sq.c (v := .int .i64 (0)) rfl rfl rfl rfl ?_
 refine sq.e (AWp.seq (AWp.rowV (l := _) pok ?_))
 refine sq.c (v := .int .i64 (x)) rfl rfl rfl rfl ?_
 refine sq.t (v := .bool false) rfl (CallsF.fn rfl (by kernel_rfl) rfl rfl) (fun hf => nanI_spec _) hf rfl ?_
 intro n1 hn2 hf
 have hn := Nat.le_trans hn hn2
 refine sq.c (v := .bool false) rfl rfl rfl rfl ?_
 refine sq.e (AWp.seq (AWp.rowV (l := _) pok ?_))
 refine sq.c (v := .int .i64 (y)) rfl rfl rfl rfl ?_
 refine sq.t (v := .bool false) rfl (CallsF.fn rfl (by kernel_rfl) rfl rfl) (fun hf => nanI_spec _) hf rfl ?_
 intro n2 hn2 hf
 have hn := Nat.le_trans hn hn2
 refine sq.c (v := .bool false) rfl rfl rfl rfl ?_
 refine sq.e (AWp.seq (AWp.seq (AWp.rowV (l := _) pok ?_)))
 refine sq.c (v := .bool false) rfl rfl rfl rfl ?_
 refine sq.e ?_
 refine AWp.condF rfl rfl ?_
 refine AWp.skip (AWp.seq (AWp.seq (AWp.rowV (l := _) pok ?_)))
 refine sq.c (v := .bool false) rfl rfl rfl rfl ?_
 refine sq.e ?_
 refine AWp.condF rfl rfl ?_
 refine AWp.skip (AWp.seq (AWp.seq (AWp.rowV (l := _) pok ?_)))
 refine sq.c (v := .int .i64 (x)) rfl rfl rfl rfl ?_
 refine sq.c (v := .int .i64 (y)) rfl rfl rfl rfl ?_
 refine sq.c (v := .bool (decide (x < y))) rfl rfl rfl rfl ?_
 refine sq.e ?_
 by_cases c9_2 : x < y
 ·rw [decide_eq_true c9_2]
  refine AWp.condT rfl rfl ?_
  refine AWp.seq (AWp.rowV (l := _) pok ?_)
  refine sq.c (v := .int .i64 (-1)) rfl rfl rfl rfl ?_
  refine sq.e ?_
  refine AWp.ret ?_
  refine ⟨rfl, [.int .i64 (-1)], rfl, .int .i64 (-1), rfl, hs, hn, ?_⟩
  show Value.int .i64 (-1) = .int .i64 (cmpI x y)
  unfold cmpI
  rw [if_pos c9_2]
 ·rw [decide_eq_false c9_2]
  refine AWp.condF rfl rfl ?_
  refine AWp.skip (AWp.seq (AWp.seq (AWp.rowV (l := _) pok ?_)))
  refine sq.c (v := .int .i64 (x)) rfl rfl rfl rfl ?_
  refine sq.c (v := .int .i64 (y)) rfl rfl rfl rfl ?_
  refine sq.c (v := .bool (decide (y < x))) rfl rfl rfl rfl ?_
  refine sq.e ?_
  by_cases c11_2 : y < x
  ·rw [decide_eq_true c11_2]
   refine AWp.condT rfl rfl ?_
   refine AWp.seq (AWp.rowV (l := _) pok ?_)
   refine sq.c (v := .int .i64 (1)) rfl rfl rfl rfl ?_
   refine sq.e ?_
   refine AWp.ret ?_
   refine ⟨rfl, [.int .i64 (1)], rfl, .int .i64 (1), rfl, hs, hn, ?_⟩
   show Value.int .i64 1 = .int .i64 (cmpI x y)
   unfold cmpI
   rw [if_neg c9_2, if_pos (by omega)]
  ·rw [decide_eq_false c11_2]
   refine AWp.condF rfl rfl ?_
   refine AWp.skip (AWp.seq (AWp.rowV (l := _) pok ?_))
   refine sq.c (v := .int .i64 (0)) rfl rfl rfl rfl ?_
   refine sq.e ?_
   refine AWp.ret ?_
   refine ⟨rfl, [.int .i64 (0)], rfl, .int .i64 (0), rfl, hs, hn, ?_⟩
   show Value.int .i64 0 = .int .i64 (cmpI x y)
   unfold cmpI
   rw [if_neg c9_2, if_neg (by omega)]
theorem pl1_spec {h : Heap} {n : Nat} (s : Samp) (t : Int) :
    Tells Tryd.prog 96 [.agg #[.int .i64 (s.1), .int .u64 (s.2)], .int .i64 (t)] h n (.int .i64 (cmpI s.1 t)) := by
 refine Makes.tells (Makes.free fun hf => ?_)
 have hs : SubBut h h ([]) := .refl _ _
 have hn : n ≤ n := Nat.le_refl _
 have hf0 := hf
 refine Makes.of_bodyV (args := [.agg #[.int .i64 (s.1), .int .u64 (s.2)], .int .i64 (t)]) (vs := [.agg #[.int .i64 (s.1), .int .u64 (s.2)], .int .i64 (t), undef, undef, undef, undef, undef, undef, undef]) Tryd.func96 rfl rfl ?_
 refine AWp.seq (AWp.rowV (l := _) pok ?_)
 refine sq.op rfl rfl (Does.box (cs := [.int .i64 (s.1), .int .u64 (s.2)]) hf rfl rfl) ?_
 rintro _ h2 n3 ⟨rfl, hb1⟩ s4 hn2 hf
 refine sq.w ?_
 have hs := hs.trans s4
 have hn := Nat.le_trans hn hn2
 refine sq.c (v := .int .i64 (0)) rfl rfl rfl rfl ?_
 refine sq.e (AWp.seq (AWp.rowV (l := _) pok ?_))
 refine sq.c (v := .pointer (some ⟨n, 0, none⟩)) rfl rfl (by kernel_rfl) rfl ?_
 refine sq.c (v := .int .i64 (s.1)) rfl rfl (ld1 (P := Tryd.prog) (t := 2) (p := 0) (v := .int .i64 (s.1)) (by kernel_rfl) (by kernel_rfl) hb1 rfl) rfl ?_
 refine sq.c (v := .int .i64 (t)) rfl rfl rfl rfl ?_
 refine sq.t (v := .int .i64 (cmpI s.1 t)) rfl (CallsF.fn rfl (by kernel_rfl) rfl rfl) (fun hf => cmpI_spec _ _) hf rfl ?_
 intro n5 hn2 hf
 have hn := Nat.le_trans hn hn2
 refine sq.c (v := .int .i64 (cmpI s.1 t)) rfl rfl rfl rfl ?_
 refine sq.e ?_
 refine AWp.ret ?_
 refine ⟨rfl, [.int .i64 (cmpI s.1 t)], rfl, .int .i64 (cmpI s.1 t), rfl, hs, hn, ?_⟩
 rfl
theorem bs_spec {h : Heap} {n : Nat} {a : Option Addr} {cp : Nat} (xs : List Samp) (hx : IsRow encSmp h (.slice a xs.length cp) xs) (t : Int) (hr : xs.Pairwise fun a b => a.1 < b.1) (hlen : xs.length < 4000000000000000000) :
    Tells Tryd.prog 95 [.slice a (xs.length) cp, .int .i64 (t), .func (.func 96) #[] #[]] h n (.tuple #[.int .i64 (low xs t : Nat), .bool (hit xs t)]) := by
 refine Makes.tells (Makes.free fun hf => ?_)
 have hs : SubBut h h ([]) := .refl _ _
 have hn : n ≤ n := Nat.le_refl _
 have hf0 := hf
 refine Makes.of_bodyV (args := [.slice a (xs.length) cp, .int .i64 (t), .func (.func 96) #[] #[]]) (vs := [.slice a (xs.length) cp, .int .i64 (t), .func (.func 96) #[] #[], undef, undef, undef, undef, undef, undef, undef, undef, undef, undef, undef, undef, undef, undef, undef, undef, undef, undef, undef, undef, undef, undef, undef, undef, undef, undef, undef, undef, undef, undef, undef, undef, undef, undef, undef, undef, undef, undef, undef, undef, undef, undef, undef, undef, undef, undef]) Tryd.func95 rfl rfl ?_
 refine AWp.seq (AWp.rowV (l := _) pok ?_)
 refine sq.c (v := .int .i64 (0)) rfl rfl rfl rfl ?_
 refine sq.c (v := .bool false) rfl rfl rfl rfl ?_
 refine sq.e (AWp.seq (AWp.rowV (l := _) pok ?_))
 refine sq.c (v := .slice a (xs.length) cp) rfl rfl rfl rfl ?_
 refine sq.c (v := .int .i64 (((xs.length : Nat) : Int))) rfl rfl (by kernel_rfl) rfl ?_
 refine sq.c (v := .int .i64 (((xs.length : Nat) : Int))) rfl rfl rfl rfl ?_
 refine sq.e (AWp.seq (AWp.rowV (l := _) pok ?_))
 refine sq.c (v := .int .i64 (((xs.length : Nat) : Int))) rfl rfl rfl rfl ?_
 refine sq.c (v := .int .i64 (0)) rfl rfl rfl rfl ?_
 refine sq.c (v := .int .i64 (((xs.length : Nat) : Int))) rfl rfl rfl rfl ?_
 refine sq.e (AWp.seq (AWp.block ?_))
 refine AWp.loopV (fun d vs h' n2 => ∃ (i j : Int), d = (j - i).toNat ∧ h = h' ∧ n ≤ n2 ∧ Free h n2 ∧ (0 ≤ i) ∧ (i ≤ j) ∧ (j ≤ (xs.length : Nat)) ∧ (∀ (k : Nat) (x : Samp), (k : Int) < i → xs[k]? = some x → x.1 < t) ∧ (∀ (k : Nat) (x : Samp), j ≤ (k : Int) → xs[k]? = some x → t ≤ x.1) ∧ ∃ y1 : Nat → Value, vs = [.slice a (xs.length) cp, .int .i64 (t), .func (.func 96) #[] #[], undef, undef, undef, .int .i64 (0), .bool false, .int .i64 (((xs.length : Nat) : Int)), .int .i64 (i), .int .i64 (j), (y1 11), .slice a (xs.length) cp, .int .i64 (((xs.length : Nat) : Int)), .int .i64 (((xs.length : Nat) : Int)), (y1 15), (y1 16), (y1 17), (y1 18), (y1 19), (y1 20), (y1 21), (y1 22), (y1 23), (y1 24), (y1 25), (y1 26), (y1 27), (y1 28), (y1 29), (y1 30), (y1 31), (y1 32), (y1 33), (y1 34), undef, undef, undef, undef, undef, undef, undef, undef, undef, undef, undef, undef, undef, undef]) (((xs.length : Nat) - (0 : Int)).toNat) ⟨0, (xs.length : Nat), rfl, rfl, hn, hf, (by omega), (by omega), (by omega), (fun k x hk => by omega), (fun k x hk hx2 => by have := (List.getElem?_eq_some_iff.1 hx2).1; omega), getV [undef, undef, undef, undef, undef, undef, undef, undef, undef, undef, undef, undef, undef, undef, undef, undef, undef, undef, undef, undef, undef, undef, undef, undef, undef, undef, undef, undef, undef, undef, undef, undef, undef, undef, undef], rfl⟩ ?_
 rintro d vs h' n2 ⟨i, j, rfl, rfl, hn, hf, hi0, hij0, hj1, hlo, hhi, y1, rfl⟩
 refine AWp.seq (AWp.seq (AWp.rowV (l := _) pok ?_))
 refine sq.c (v := .int .i64 (i)) rfl rfl rfl rfl ?_
 refine sq.c (v := .int .i64 (j)) rfl rfl rfl rfl ?_
 refine sq.c (v := .bool (decide (i < j))) rfl rfl rfl rfl ?_
 refine sq.e ?_
 by_cases c3_2 : i < j
 ·rw [decide_eq_true c3_2]
  refine AWp.condT rfl rfl ?_
  refine AWp.skip (AWp.block (AWp.seq (AWp.rowV (l := _) pok ?_)))
  refine sq.c (v := .int .i64 (i)) rfl rfl rfl rfl ?_
  refine sq.c (v := .int .i64 (j)) rfl rfl rfl rfl ?_
  refine sq.c (v := .int .i64 (i + j)) rfl rfl (okI (wrap_i64 (by omega) (by omega))) rfl ?_
  refine sq.c (v := .int .u64 (i + j)) rfl rfl (Eq.trans (b := some (.int .u64 (IntKind.u64.wrap (i + j)))) (by kernel_rfl) (okI (wrap_u64 (by omega) (by omega)))) rfl ?_
  refine sq.c (v := .int .u64 ((i + j) / 2)) rfl rfl (okI (shr_lit (by rfl) (by decide))) rfl ?_
  refine sq.c (v := .int .i64 ((i + j) / 2)) rfl rfl (Eq.trans (b := some (.int .i64 (IntKind.i64.wrap ((i + j) / 2)))) (by kernel_rfl) (okI (wrap_i64 (by omega) (by omega)))) rfl ?_
  refine sq.c (v := .int .i64 ((i + j) / 2)) rfl rfl rfl rfl ?_
  refine sq.e (AWp.seq (AWp.rowV (l := _) pok ?_))
  refine sq.c (v := .func (.func 96) #[] #[]) rfl rfl rfl rfl ?_
  refine sq.c (v := .slice a (xs.length) cp) rfl rfl rfl rfl ?_
  refine sq.c (v := .int .i64 ((i + j) / 2)) rfl rfl rfl rfl ?_
  have i9 : (0 : Int) ≤ ((i + j) / 2 : Int) := by omega
  obtain ⟨x10, hx_x10⟩ : ∃ x, (xs)[(((i + j) / 2 : Int)).toNat]? = some x := ⟨_, List.getElem?_eq_getElem (by omega)⟩
  obtain ⟨b3, o4, cs_b3, ow_b3, ci_b3, ie8, hb5, hc6, hr7⟩ := IsRow.at (P := Tryd.prog) (t := 41) (e := 53) (k := .i64) (by kernel_rfl) (by kernel_rfl) (hx.keep hs) i9 hx_x10
  refine sq.c (v := .pointer (some ⟨b3, o4, none⟩)) rfl rfl ie8 rfl ?_
  refine sq.c (v := .agg #[.int .i64 (x10.1), .int .u64 (x10.2)]) rfl rfl (ldR (P := Tryd.prog) (t := 53) (k := 2) (xs := [.int .i64 (x10.1), .int .u64 (x10.2)]) (by kernel_rfl) (by kernel_rfl) hr7) rfl ?_
  refine sq.c (v := .int .i64 (t)) rfl rfl rfl rfl ?_
  refine sq.t (v := .int .i64 (cmpI x10.1 t)) rfl (CallsF.val rfl rfl (by kernel_rfl) rfl rfl) (fun hf => pl1_spec x10 _) hf rfl ?_
  intro n11 hn2 hf
  have hn := Nat.le_trans hn hn2
  refine sq.c (v := .bool (decide ((cmpI x10.1 t) < (0 : Int)))) rfl rfl rfl rfl ?_
  refine sq.e ?_
  by_cases c5_7 : (cmpI x10.1 t) < (0 : Int)
  ·rw [decide_eq_true c5_7]
   refine AWp.condT rfl rfl ?_
   refine AWp.rowV (l := _) pok ?_
   refine sq.c (v := .int .i64 ((i + j) / 2)) rfl rfl rfl rfl ?_
   refine sq.c (v := .int .i64 (((i + j) / 2) + 1)) rfl rfl (okI (wrap_i64 (by omega) (by omega))) rfl ?_
   refine sq.c (v := .int .i64 (((i + j) / 2) + 1)) rfl rfl rfl rfl ?_
   refine sq.e ?_
   have hlo2 : ∀ (k : Nat) (x : Samp), (k : Int) < (i + j) / 2 + 1 → xs[k]? = some x → x.1 < t := by
    intro k x hk hx2
    by_cases e : k = ((i + j) / 2).toNat
    ·subst e; rw [hx_x10] at hx2; cases hx2; exact cmpI_lt.1 c5_7
    ·have := rise_lt hr (show k < ((i + j) / 2).toNat by omega) hx2 hx_x10
     have := cmpI_lt.1 c5_7
     omega
   refine ⟨_, _, rfl, by omega, (i + j) / 2 + 1, j, rfl, rfl, hn, hf, (by omega), (by omega), (by omega), (hlo2), (hhi), getV [undef, undef, undef, undef, undef, undef, undef, undef, undef, undef, undef, .int .i64 ((i + j) / 2), undef, undef, undef, .int .i64 (i), .int .i64 (j), .bool true, .int .i64 (i), .int .i64 (j), .int .i64 (i + j), .int .u64 (i + j), .int .u64 ((i + j) / 2), .int .i64 ((i + j) / 2), .func (.func 96) #[] #[], .slice a (xs.length) cp, .int .i64 ((i + j) / 2), .pointer (some ⟨b3, o4, none⟩), .agg #[.int .i64 (x10.1), .int .u64 (x10.2)], .int .i64 (t), .int .i64 (cmpI x10.1 t), .bool true, .int .i64 ((i + j) / 2), .int .i64 (((i + j) / 2) + 1), (y1 34)], rfl⟩
  ·rw [decide_eq_false c5_7]
   refine AWp.condF rfl rfl ?_
   refine AWp.rowV (l := _) pok ?_
   refine sq.c (v := .int .i64 ((i + j) / 2)) rfl rfl rfl rfl ?_
   refine sq.c (v := .int .i64 ((i + j) / 2)) rfl rfl rfl rfl ?_
   refine sq.e ?_
   have hhi2 : ∀ (k : Nat) (x : Samp), (i + j) / 2 ≤ (k : Int) → xs[k]? = some x → t ≤ x.1 := by
    intro k x hk hx2
    have hge : t ≤ x10.1 := by
     have := mt cmpI_lt.2 c5_7
     omega
    by_cases e : ((i + j) / 2).toNat = k
    ·subst e; rw [hx_x10] at hx2; cases hx2; exact hge
    ·have := rise_lt hr (show ((i + j) / 2).toNat < k by omega) hx_x10 hx2
     omega
   refine ⟨_, _, rfl, by omega, i, (i + j) / 2, rfl, rfl, hn, hf, (by omega), (by omega), (by omega), (hlo), (hhi2), getV [undef, undef, undef, undef, undef, undef, undef, undef, undef, undef, undef, .int .i64 ((i + j) / 2), undef, undef, undef, .int .i64 (i), .int .i64 (j), .bool true, .int .i64 (i), .int .i64 (j), .int .i64 (i + j), .int .u64 (i + j), .int .u64 ((i + j) / 2), .int .i64 ((i + j) / 2), .func (.func 96) #[] #[], .slice a (xs.length) cp, .int .i64 ((i + j) / 2), .pointer (some ⟨b3, o4, none⟩), .agg #[.int .i64 (x10.1), .int .u64 (x10.2)], .int .i64 (t), .int .i64 (cmpI x10.1 t), .bool false, (y1 32), (y1 33), .int .i64 ((i + j) / 2)], rfl⟩
 ·rw [decide_eq_false c3_2]
  refine AWp.condF rfl rfl ?_
  refine AWp.exit ?_
  refine AWp.seq (AWp.rowV (l := _) pok ?_)
  refine sq.c (v := .int .i64 (i)) rfl rfl rfl rfl ?_
  refine sq.c (v := .int .i64 (i)) rfl rfl rfl rfl ?_
  refine sq.c (v := .int .i64 (((xs.length : Nat) : Int))) rfl rfl rfl rfl ?_
  refine sq.c (v := .bool (decide (i < (((xs.length : Nat) : Int))))) rfl rfl rfl rfl ?_
  refine sq.c (v := .bool (decide (i < (((xs.length : Nat) : Int))))) rfl rfl rfl rfl ?_
  by_cases c8_3 : i < (((xs.length : Nat) : Int))
  ·rw [decide_eq_true c8_3]
   refine sq.c (v := .func (.func 96) #[] #[]) (wantT (g := 4) (d := 39) rfl rfl rfl) rfl rfl rfl ?_
   refine sq.c (v := .slice a (xs.length) cp) (wantT (g := 4) (d := 39) rfl rfl rfl) rfl rfl rfl ?_
   refine sq.c (v := .int .i64 (i)) (wantT (g := 4) (d := 39) rfl rfl rfl) rfl rfl rfl ?_
   have i18 : (0 : Int) ≤ (i : Int) := by omega
   obtain ⟨x19, hx_x19⟩ : ∃ x, (xs)[((i : Int)).toNat]? = some x := ⟨_, List.getElem?_eq_getElem (by omega)⟩
   obtain ⟨b12, o13, cs_b12, ow_b12, ci_b12, ie17, hb14, hc15, hr16⟩ := IsRow.at (P := Tryd.prog) (t := 41) (e := 53) (k := .i64) (by kernel_rfl) (by kernel_rfl) (hx.keep hs) i18 hx_x19
   refine sq.c (v := .pointer (some ⟨b12, o13, none⟩)) (wantT (g := 4) (d := 39) rfl rfl rfl) rfl ie17 rfl ?_
   refine sq.c (v := .agg #[.int .i64 (x19.1), .int .u64 (x19.2)]) (wantT (g := 4) (d := 39) rfl rfl rfl) rfl (ldR (P := Tryd.prog) (t := 53) (k := 2) (xs := [.int .i64 (x19.1), .int .u64 (x19.2)]) (by kernel_rfl) (by kernel_rfl) hr16) rfl ?_
   refine sq.c (v := .int .i64 (t)) (wantT (g := 4) (d := 39) rfl rfl rfl) rfl rfl rfl ?_
   refine sq.t (v := .int .i64 (cmpI x19.1 t)) (wantT (g := 4) (d := 39) rfl rfl rfl) (CallsF.val rfl rfl (by kernel_rfl) rfl rfl) (fun hf => pl1_spec x19 _) hf rfl ?_
   intro n20 hn2 hf
   have hn := Nat.le_trans hn hn2
   refine sq.c (v := .bool (decide ((cmpI x19.1 t) = (0 : Int)))) (wantT (g := 4) (d := 39) rfl rfl rfl) rfl rfl rfl ?_
   refine sq.c (v := .bool (decide ((cmpI x19.1 t) = (0 : Int)))) rfl rfl rfl rfl ?_
   refine sq.c (v := .int .i64 (i)) rfl rfl rfl rfl ?_
   refine sq.c (v := .bool (decide ((cmpI x19.1 t) = (0 : Int)))) rfl rfl rfl rfl ?_
   refine sq.e ?_
   refine AWp.ret ?_
   refine ⟨rfl, [.int .i64 (i), .bool (decide ((cmpI x19.1 t) = (0 : Int)))], rfl, .tuple #[.int .i64 (i), .bool (decide ((cmpI x19.1 t) = (0 : Int)))], rfl, hs, hn, ?_⟩
   have hij : i = j := by omega
   have hl : low xs t = i.toNat := low_of (by omega) (fun k x hk hx2 => hlo k x (by omega) hx2) (fun x hx2 => hhi _ x (by omega) hx2)
   have hh : hit xs t = decide (cmpI x19.1 t = 0) := by
    unfold hit
    rw [hl, hx_x19]
    exact decide_eq_decide.2 cmpI_eq.symm
   show Value.tuple #[.int .i64 i, .bool (decide (cmpI x19.1 t = 0))] = .tuple #[.int .i64 (low xs t : Nat), .bool (hit xs t)]
   rw [hh, hl, show ((i.toNat : Nat) : Int) = i by omega]
  ·rw [decide_eq_false c8_3]
   refine sq.s (wantF (g := 4) (d := 39) rfl rfl rfl) rfl ?_
   refine sq.s (wantF (g := 4) (d := 39) rfl rfl rfl) rfl ?_
   refine sq.s (wantF (g := 4) (d := 39) rfl rfl rfl) rfl ?_
   refine sq.s (wantF (g := 4) (d := 39) rfl rfl rfl) rfl ?_
   refine sq.s (wantF (g := 4) (d := 39) rfl rfl rfl) rfl ?_
   refine sq.s (wantF (g := 4) (d := 39) rfl rfl rfl) rfl ?_
   refine sq.s (wantF (g := 4) (d := 39) rfl rfl rfl) rfl ?_
   refine sq.s (wantF (g := 4) (d := 39) rfl rfl rfl) rfl ?_
   refine sq.c (v := .bool false) rfl rfl rfl rfl ?_
   refine sq.c (v := .int .i64 (i)) rfl rfl rfl rfl ?_
   refine sq.c (v := .bool false) rfl rfl rfl rfl ?_
   refine sq.e ?_
   refine AWp.ret ?_
   refine ⟨rfl, [.int .i64 (i), .bool false], rfl, .tuple #[.int .i64 (i), .bool false], rfl, hs, hn, ?_⟩
   have hij : i = j := by omega
   have hl : low xs t = i.toNat := low_of (by omega) (fun k x hk hx2 => hlo k x (by omega) hx2) (fun x hx2 => hhi _ x (by omega) hx2)
   have hh : hit xs t = false := by
    unfold hit
    rw [hl, List.getElem?_eq_none (by omega)]
   show Value.tuple #[.int .i64 i, .bool false] = .tuple #[.int .i64 (low xs t : Nat), .bool (hit xs t)]
   rw [hh, hl, show ((i.toNat : Nat) : Int) = i by omega]
theorem place_spec {h : Heap} {n : Nat} {a : Option Addr} {cp : Nat} (xs : List Samp) (hx : IsRow encSmp h (.slice a xs.length cp) xs) (t : Int) (hr : xs.Pairwise fun a b => a.1 < b.1) (hlen : xs.length < 4000000000000000000) :
    Tells Tryd.prog 88 [.slice a (xs.length) cp, .int .i64 (t)] h n (.tuple #[.int .i64 (low xs t : Nat), .bool (hit xs t)]) := by
 refine Makes.tells (Makes.free fun hf => ?_)
 have hs : SubBut h h ([]) := .refl _ _
 have hn : n ≤ n := Nat.le_refl _
 have hf0 := hf
 refine Makes.of_bodyV (args := [.slice a (xs.length) cp, .int .i64 (t)]) (vs := [.slice a (xs.length) cp, .int .i64 (t), undef, undef, undef, undef, undef, undef, undef, undef, undef]) Tryd.func88 rfl rfl ?_
 refine AWp.seq (AWp.rowV (l := _) pok ?_)
 refine sq.c (v := .int .i64 (0)) rfl rfl rfl rfl ?_
 refine sq.c (v := .bool false) rfl rfl rfl rfl ?_
 refine sq.e (AWp.seq (AWp.rowV (l := _) pok ?_))
 refine sq.c (v := .slice a (xs.length) cp) rfl rfl rfl rfl ?_
 refine sq.c (v := .int .i64 (t)) rfl rfl rfl rfl ?_
 refine sq.t (v := .tuple #[.int .i64 ((low xs t : Nat)), .bool (hit xs t)]) rfl (CallsF.fn rfl (by kernel_rfl) rfl rfl) (fun hf => bs_spec _ hx _ hr hlen) hf rfl ?_
 intro n1 hn2 hf
 have hn := Nat.le_trans hn hn2
 refine sq.c (v := .int .i64 ((low xs t : Nat))) rfl rfl rfl rfl ?_
 refine sq.c (v := .bool (hit xs t)) rfl rfl rfl rfl ?_
 refine sq.c (v := .int .i64 ((low xs t : Nat))) rfl rfl rfl rfl ?_
 refine sq.c (v := .bool (hit xs t)) rfl rfl rfl rfl ?_
 refine sq.e ?_
 refine AWp.ret ?_
 refine ⟨rfl, [.int .i64 ((low xs t : Nat)), .bool (hit xs t)], rfl, .tuple #[.int .i64 ((low xs t : Nat)), .bool (hit xs t)], rfl, hs, hn, ?_⟩
 rfl
theorem all_same {α : Type} {xs ys : List α} (h : xs.length = ys.length) (hy : ∀ j : Nat, j < xs.length → xs[j]? = ys[j]?) : xs = ys := by
  apply List.ext_getElem?
  intro j
  by_cases hj : j < xs.length
  · exact hy j hj
  · rw [List.getElem?_eq_none (by omega), List.getElem?_eq_none (by omega)]
theorem one_not {α : Type} {xs ys : List α} {i : Nat} {x y : α} (hx : xs[i]? = some x) (hy : ys[i]? = some y) (h : ¬ x = y) : ¬ xs = ys := by
  intro e
  rw [e, hy] at hx
  exact h (Option.some.inj hx).symm
theorem hit_at {xs : List Samp} {t : Int} (h : hit xs t = true) : ∃ x, xs[low xs t]? = some x ∧ x.1 = t := by
  unfold hit at h
  split at h
  · rename_i x hx; exact ⟨x, hx, by simpa using h⟩
  · cases h
theorem judge_bad {xs : List Samp} {s : Samp} (h : mayT s.1 = false) : judge xs s = 4 := by unfold judge; rw [if_pos h]
theorem judge_hit {xs : List Samp} {s x : Samp} (h : mayT s.1 = true) (hh : hit xs s.1 = true) (hx : xs[low xs s.1]? = some x) : judge xs s = if x.2 = s.2 then 2 else 3 := by
  obtain ⟨y, hy, ht⟩ := hit_at hh
  rw [hx] at hy; cases hy
  unfold judge
  rw [if_neg (by simp [h]), hx]
  simp [ht]
theorem judge_mid {xs : List Samp} {s : Samp} (h : mayT s.1 = true) (hh : hit xs s.1 = false) (hl : low xs s.1 < xs.length) : judge xs s = 4 := by
  unfold judge
  rw [if_neg (by simp [h]), List.getElem?_eq_getElem hl]
  unfold hit at hh
  rw [List.getElem?_eq_getElem hl] at hh
  simp only [decide_eq_false_iff_not] at hh
  simp [hh]
theorem judge_end {xs : List Samp} {s : Samp} (h : mayT s.1 = true) (hl : ¬ low xs s.1 < xs.length) : judge xs s = 1 := by
  unfold judge
  rw [if_neg (by simp [h]), List.getElem?_eq_none (by omega)]
theorem take_snoc {α : Type} {xs : List α} {i : Int} {x : α} (h0 : 0 ≤ i) (h : xs[i.toNat]? = some x) : xs.take (i + 1).toNat = xs.take i.toNat ++ [x] := by
  obtain ⟨hi, rfl⟩ := List.getElem?_eq_some_iff.1 h
  rw [show (i + 1).toNat = i.toNat + 1 by omega, List.take_succ_eq_append_getElem hi]
theorem judge_spec {h : Heap} {n : Nat} {a : Option Addr} {cp : Nat} (xs : List Samp) (hx : IsRow encSmp h (.slice a xs.length cp) xs) (s : Samp) (hr : xs.Pairwise fun a b => a.1 < b.1) (hlen : xs.length < 4000000000000000000) :
    Tells Tryd.prog 72 [.slice a (xs.length) cp, .agg #[.int .i64 (s.1), .int .u64 (s.2)]] h n (.int .u8 (judge xs s)) := by
 refine Makes.tells (Makes.free fun hf => ?_)
 have hs : SubBut h h ([]) := .refl _ _
 have hn : n ≤ n := Nat.le_refl _
 have hf0 := hf
 refine Makes.of_bodyV (args := [.slice a (xs.length) cp, .agg #[.int .i64 (s.1), .int .u64 (s.2)]]) (vs := [.slice a (xs.length) cp, .agg #[.int .i64 (s.1), .int .u64 (s.2)], undef, undef, undef, undef, undef, undef, undef, undef, undef, undef, undef, undef, undef, undef, undef, undef, undef, undef, undef, undef, undef, undef, undef, undef, undef, undef, undef, undef, undef, undef, undef, undef, undef, undef, undef, undef]) Tryd.func72 rfl rfl ?_
 refine AWp.seq (AWp.rowV (l := _) pok ?_)
 refine sq.op rfl rfl (Does.box (cs := [.int .i64 (s.1), .int .u64 (s.2)]) hf rfl rfl) ?_
 rintro _ h2 n3 ⟨rfl, hb1⟩ s4 hn2 hf
 refine sq.w ?_
 have hs := hs.trans s4
 have hn := Nat.le_trans hn hn2
 refine sq.c (v := .int .u8 (0)) rfl rfl rfl rfl ?_
 refine sq.e (AWp.seq (AWp.rowV (l := _) pok ?_))
 refine sq.c (v := .slice a (xs.length) cp) rfl rfl rfl rfl ?_
 refine sq.c (v := .pointer (some ⟨n, 0, none⟩)) rfl rfl (by kernel_rfl) rfl ?_
 refine sq.c (v := .int .i64 (s.1)) rfl rfl (ld1 (P := Tryd.prog) (t := 2) (p := 0) (v := .int .i64 (s.1)) (by kernel_rfl) (by kernel_rfl) hb1 rfl) rfl ?_
 refine sq.t (v := .tuple #[.int .i64 ((low xs s.1 : Nat)), .bool (hit xs s.1)]) rfl (CallsF.fn rfl (by kernel_rfl) rfl rfl) (fun hf => place_spec _ (hx.keep hs) _ hr hlen) hf rfl ?_
 intro n5 hn2 hf
 have hn := Nat.le_trans hn hn2
 refine sq.c (v := .tuple #[.int .i64 ((low xs s.1 : Nat)), .bool (hit xs s.1)]) rfl rfl rfl rfl ?_
 refine sq.c (v := .int .i64 ((low xs s.1 : Nat))) rfl rfl rfl rfl ?_
 refine sq.c (v := .bool (hit xs s.1)) rfl rfl rfl rfl ?_
 refine sq.c (v := .int .i64 ((low xs s.1 : Nat))) rfl rfl rfl rfl ?_
 refine sq.c (v := .bool (hit xs s.1)) rfl rfl rfl rfl ?_
 refine sq.e (AWp.seq (AWp.block (AWp.seq (AWp.rowV (l := _) pok ?_))))
 refine sq.c (v := .pointer (some ⟨n, 0, none⟩)) rfl rfl (by kernel_rfl) rfl ?_
 refine sq.c (v := .int .i64 (s.1)) rfl rfl (ld1 (P := Tryd.prog) (t := 2) (p := 0) (v := .int .i64 (s.1)) (by kernel_rfl) (by kernel_rfl) hb1 rfl) rfl ?_
 refine sq.t (v := .bool (mayT s.1)) rfl (CallsF.fn rfl (by kernel_rfl) rfl rfl) (fun hf => mayT_spec _) hf rfl ?_
 intro n6 hn2 hf
 have hn := Nat.le_trans hn hn2
 rcases Bool.eq_false_or_eq_true (mayT s.1) with c2_2 | c2_2
 ·rw [c2_2]
  refine sq.c (v := .bool false) rfl rfl rfl rfl ?_
  refine sq.c (v := .bool false) rfl rfl rfl rfl ?_
  refine sq.e ?_
  refine AWp.condF rfl rfl ?_
  refine AWp.seq ?_
  refine AWp.anyV pok [] [0, 1, 2, 3, 4, 5, 6, 7, 8, 9, 10, 11] (by kernel_rfl) (by kernel_rfl) rfl (fun x fr fr' h n hd _ q => ⟨hd ▸ q.1, q.2⟩) ?_
  refine dq.c (v := .bool (hit xs s.1)) rfl (by kernel_rfl) rfl rfl rfl rfl ?_
  refine dq.c (v := .bool (hit xs s.1)) rfl (by kernel_rfl) rfl rfl rfl rfl ?_
  rcases Bool.eq_false_or_eq_true (hit xs s.1) with c1_3 | c1_3
  ·rw [c1_3]
   refine dq.c (v := .slice a (xs.length) cp) rfl (by kernel_rfl) (wantT (g := 1) (d := 21) rfl rfl rfl) rfl rfl rfl ?_
   refine dq.c (v := .int .i64 ((low xs s.1 : Nat))) rfl (by kernel_rfl) (wantT (g := 1) (d := 21) rfl rfl rfl) rfl rfl rfl ?_
   have i13 : (0 : Int) ≤ ((low xs s.1 : Nat) : Int) := by omega
   obtain ⟨x14, hx_x14⟩ : ∃ x, (xs)[(((low xs s.1 : Nat) : Int)).toNat]? = some x := ⟨_, List.getElem?_eq_getElem (by obtain ⟨y_, hy_, _⟩ := hit_at c1_3; have := (List.getElem?_eq_some_iff.1 hy_).1; omega)⟩
   obtain ⟨b7, o8, cs_b7, ow_b7, ci_b7, ie12, hb9, hc10, hr11⟩ := IsRow.at (P := Tryd.prog) (t := 41) (e := 53) (k := .i64) (by kernel_rfl) (by kernel_rfl) (hx.keep hs) i13 hx_x14
   refine dq.c (v := .pointer (some ⟨b7, o8, none⟩)) rfl (by kernel_rfl) (wantT (g := 1) (d := 21) rfl rfl rfl) rfl ie12 rfl ?_
   refine dq.c (v := .pointer (some ⟨b7, o8 + 1, none⟩)) rfl (by kernel_rfl) (wantT (g := 1) (d := 21) rfl rfl rfl) rfl (by kernel_rfl) rfl ?_
   refine dq.g (v := .int .u64 (x14.2)) rfl (by kernel_rfl) (wantT (g := 1) (d := 21) rfl rfl rfl) rfl (ld1 (P := Tryd.prog) (t := 51) (p := o8 + 1) (v := .int .u64 (x14.2)) (by kernel_rfl) (by kernel_rfl) hb9 (hc10 1 _ rfl)) rfl ?_
   refine dq.c (v := .pointer (some ⟨n, 1, none⟩)) rfl (by kernel_rfl) (wantT (g := 1) (d := 21) rfl rfl rfl) rfl (by kernel_rfl) rfl ?_
   refine dq.g (v := .int .u64 (s.2)) rfl (by kernel_rfl) (wantT (g := 1) (d := 21) rfl rfl rfl) rfl (ld1 (P := Tryd.prog) (t := 51) (p := 1) (v := .int .u64 (s.2)) (by kernel_rfl) (by kernel_rfl) hb1 rfl) rfl ?_
   refine dq.c (v := .bool (decide (x14.2 = s.2))) rfl (by kernel_rfl) (wantT (g := 1) (d := 21) rfl rfl rfl) rfl rfl rfl ?_
   refine dq.c (v := .bool (decide (x14.2 = s.2))) rfl (by kernel_rfl) rfl rfl rfl rfl ?_
   refine dq.c (v := .bool (decide (x14.2 = s.2))) rfl (by kernel_rfl) rfl rfl rfl rfl ?_
   refine dq.e ?_
   by_cases c4_9 : x14.2 = s.2
   ·rw [decide_eq_true c4_9]
    refine AWp.condT rfl rfl ?_
    refine AWp.seq (AWp.rowV (l := _) pok ?_)
    refine sq.c (v := .int .u8 (2)) rfl rfl rfl rfl ?_
    refine sq.e ?_
    refine AWp.ret ?_
    refine ⟨rfl, [.int .u8 (2)], rfl, .int .u8 (2), rfl, hs, hn, ?_⟩
    show Value.int .u8 2 = .int .u8 (judge xs s)
    rw [judge_hit c2_2 c1_3 (by simpa using hx_x14), if_pos c4_9]
   ·rw [decide_eq_false c4_9]
    refine AWp.condF rfl rfl ?_
    refine AWp.seq (AWp.rowV (l := _) pok ?_)
    refine sq.c (v := .bool true) rfl rfl rfl rfl ?_
    refine sq.c (v := .bool true) rfl rfl rfl rfl ?_
    refine sq.e ?_
    refine AWp.condT rfl rfl ?_
    refine AWp.seq (AWp.rowV (l := _) pok ?_)
    refine sq.c (v := .int .u8 (3)) rfl rfl rfl rfl ?_
    refine sq.e ?_
    refine AWp.ret ?_
    refine ⟨rfl, [.int .u8 (3)], rfl, .int .u8 (3), rfl, hs, hn, ?_⟩
    show Value.int .u8 3 = .int .u8 (judge xs s)
    rw [judge_hit c2_2 c1_3 (by simpa using hx_x14), if_neg c4_9]
  ·rw [c1_3]
   refine dq.s rfl (wantF (g := 1) (d := 21) rfl rfl rfl) rfl ?_
   refine dq.s rfl (wantF (g := 1) (d := 21) rfl rfl rfl) rfl ?_
   refine dq.s rfl (wantF (g := 1) (d := 21) rfl rfl rfl) rfl ?_
   refine dq.s rfl (wantF (g := 1) (d := 21) rfl rfl rfl) rfl ?_
   refine dq.s rfl (wantF (g := 1) (d := 21) rfl rfl rfl) rfl ?_
   refine dq.s rfl (wantF (g := 1) (d := 21) rfl rfl rfl) rfl ?_
   refine dq.s rfl (wantF (g := 1) (d := 21) rfl rfl rfl) rfl ?_
   refine dq.s rfl (wantF (g := 1) (d := 21) rfl rfl rfl) rfl ?_
   refine dq.c (v := .bool false) rfl (by kernel_rfl) rfl rfl rfl rfl ?_
   refine dq.c (v := .bool false) rfl (by kernel_rfl) rfl rfl rfl rfl ?_
   refine dq.e ?_
   refine AWp.condF rfl rfl ?_
   refine AWp.seq (AWp.rowV (l := _) pok ?_)
   refine sq.c (v := .bool false) rfl rfl rfl rfl ?_
   refine sq.c (v := .bool false) rfl rfl rfl rfl ?_
   refine sq.e ?_
   refine AWp.condF rfl rfl ?_
   refine AWp.seq (AWp.rowV (l := _) pok ?_)
   refine sq.c (v := .int .i64 ((low xs s.1 : Nat))) rfl rfl rfl rfl ?_
   refine sq.c (v := .slice a (xs.length) cp) rfl rfl rfl rfl ?_
   refine sq.c (v := .int .i64 (((xs.length : Nat) : Int))) rfl rfl (by kernel_rfl) rfl ?_
   refine sq.c (v := .bool (decide (((low xs s.1 : Nat)) < (((xs.length : Nat) : Int))))) rfl rfl rfl rfl ?_
   refine sq.c (v := .bool (decide (((low xs s.1 : Nat)) < (((xs.length : Nat) : Int))))) rfl rfl rfl rfl ?_
   refine sq.e ?_
   by_cases c8_3 : ((low xs s.1 : Nat)) < (((xs.length : Nat) : Int))
   ·rw [decide_eq_true c8_3]
    refine AWp.condT rfl rfl ?_
    refine AWp.seq (AWp.rowV (l := _) pok ?_)
    refine sq.c (v := .int .u8 (4)) rfl rfl rfl rfl ?_
    refine sq.e ?_
    refine AWp.ret ?_
    refine ⟨rfl, [.int .u8 (4)], rfl, .int .u8 (4), rfl, hs, hn, ?_⟩
    show Value.int .u8 4 = .int .u8 (judge xs s)
    rw [judge_mid c2_2 c1_3 (by omega)]
   ·rw [decide_eq_false c8_3]
    refine AWp.condF rfl rfl ?_
    refine AWp.skip (AWp.seq (AWp.rowV (l := _) pok ?_))
    refine sq.c (v := .int .u8 (1)) rfl rfl rfl rfl ?_
    refine sq.e ?_
    refine AWp.ret ?_
    refine ⟨rfl, [.int .u8 (1)], rfl, .int .u8 (1), rfl, hs, hn, ?_⟩
    show Value.int .u8 1 = .int .u8 (judge xs s)
    rw [judge_end c2_2 (by omega)]
 ·rw [c2_2]
  refine sq.c (v := .bool true) rfl rfl rfl rfl ?_
  refine sq.c (v := .bool true) rfl rfl rfl rfl ?_
  refine sq.e ?_
  refine AWp.condT rfl rfl ?_
  refine AWp.seq (AWp.rowV (l := _) pok ?_)
  refine sq.c (v := .int .u8 (4)) rfl rfl rfl rfl ?_
  refine sq.e ?_
  refine AWp.ret ?_
  refine ⟨rfl, [.int .u8 (4)], rfl, .int .u8 (4), rfl, hs, hn, ?_⟩
  show Value.int .u8 4 = .int .u8 (judge xs s)
  rw [judge_bad c2_2]
theorem mayS_spec {h : Heap} {n : Nat} {a : Option Addr} {cp : Nat} (xs : List Samp) (hx : IsRow encSmp h (.slice a xs.length cp) xs) (hlen : xs.length < 4000000000000000000) :
    Tells Tryd.prog 62 [.slice a (xs.length) cp] h n (.bool (mayS xs)) := by
 refine Makes.tells (Makes.free fun hf => ?_)
 have hs : SubBut h h ([]) := .refl _ _
 have hn : n ≤ n := Nat.le_refl _
 have hf0 := hf
 refine Makes.of_bodyV (args := [.slice a (xs.length) cp]) (vs := [.slice a (xs.length) cp, undef, undef, undef, undef, undef, undef, undef, undef, undef, undef, undef, undef, undef, undef, undef, undef, undef, undef, undef, undef, undef, undef, undef, undef, undef, undef, undef, undef, undef, undef, undef]) Tryd.func62 rfl rfl ?_
 refine AWp.seq (AWp.rowV (l := _) pok ?_)
 refine sq.c (v := .bool false) rfl rfl rfl rfl ?_
 refine sq.e (AWp.seq (AWp.seq (AWp.rowV (l := _) pok ?_)))
 refine sq.c (v := .slice a (xs.length) cp) rfl rfl rfl rfl ?_
 refine sq.c (v := .int .i64 (((xs.length : Nat) : Int))) rfl rfl (by kernel_rfl) rfl ?_
 refine sq.c (v := .int .i64 (0)) rfl rfl rfl rfl ?_
 refine sq.e (AWp.block ?_)
 refine AWp.loopV (fun d vs h2 n3 => ∃ (i : Int), d = ((xs.length : Nat) - i + 1).toNat ∧ SubBut h h2 ([]) ∧ n ≤ n3 ∧ Free h2 n3 ∧ (0 ≤ i) ∧ (i ≤ (xs.length : Nat)) ∧ (∀ j : Nat, (j : Int) < i → okS xs j = true) ∧ ∃ y1 : Nat → Value, vs = [.slice a (xs.length) cp, undef, (y1 2), (y1 3), (y1 4), .slice a (xs.length) cp, .int .i64 (((xs.length : Nat) : Int)), .int .i64 (i), (y1 8), (y1 9), (y1 10), (y1 11), (y1 12), (y1 13), (y1 14), (y1 15), (y1 16), (y1 17), (y1 18), (y1 19), (y1 20), (y1 21), (y1 22), (y1 23), (y1 24), (y1 25), (y1 26), (y1 27), (y1 28), (y1 29), (y1 30), (y1 31)]) (((xs.length : Nat) - (0 : Int) + 1).toNat) ⟨0, rfl, hs, hn, hf, (by omega), (by omega), (fun j hj => by omega), getV [undef, undef, .bool false, undef, undef, undef, undef, undef, undef, undef, undef, undef, undef, undef, undef, undef, undef, undef, undef, undef, undef, undef, undef, undef, undef, undef, undef, undef, undef, undef, undef, undef], rfl⟩ ?_
 rintro d vs h2 n3 ⟨i, rfl, hs, hn, hf, hi0, hi1, hyes, y1, rfl⟩
 refine AWp.seq (AWp.rowV (l := _) pok ?_)
 refine sq.c (v := .bool (decide (i < (((xs.length : Nat) : Int))))) rfl rfl rfl rfl ?_
 refine sq.e (AWp.seq ?_)
 by_cases c2_0 : i < (((xs.length : Nat) : Int))
 ·rw [decide_eq_true c2_0]
  refine AWp.condT rfl rfl ?_
  refine AWp.skip (AWp.seq (AWp.block (AWp.seq (AWp.rowV (l := _) pok ?_))))
  refine sq.c (v := .int .i64 (i)) rfl rfl rfl rfl ?_
  have i10 : (0 : Int) ≤ (i : Int) := by omega
  obtain ⟨x11, hx_x11⟩ : ∃ x, (xs)[((i : Int)).toNat]? = some x := ⟨_, List.getElem?_eq_getElem (by omega)⟩
  obtain ⟨b4, o5, cs_b4, ow_b4, ci_b4, ie9, hb6, hc7, hr8⟩ := IsRow.at (P := Tryd.prog) (t := 41) (e := 53) (k := .i64) (by kernel_rfl) (by kernel_rfl) (hx.keep hs) i10 hx_x11
  refine sq.c (v := .pointer (some ⟨b4, o5, none⟩)) rfl rfl ie9 rfl ?_
  refine sq.c (v := .agg #[.int .i64 (x11.1), .int .u64 (x11.2)]) rfl rfl (ldR (P := Tryd.prog) (t := 53) (k := 2) (xs := [.int .i64 (x11.1), .int .u64 (x11.2)]) (by kernel_rfl) (by kernel_rfl) hr8) rfl ?_
  have z_n3 : h.get n3 = none := hf0 _ hn
  refine sq.op rfl rfl (Does.alloc (cs := [.int .i64 (0), .int .u64 (0)]) hf (z := .agg #[.int .i64 (0), .int .u64 (0)]) (by kernel_rfl) rfl) ?_
  rintro _ h13 n14 ⟨rfl, hb12⟩ s15 hn2 hf
  refine sq.w ?_
  have hs := hs.trans s15
  have hn := Nat.le_trans hn hn2
  refine sq.c (v := .int .i64 (i)) rfl rfl rfl rfl ?_
  refine sq.op rfl rfl (Does.store (k := 2) (xs := [.int .i64 (x11.1), .int .u64 (x11.2)]) (cs' := [.int .i64 (x11.1), .int .u64 (x11.2)]) hf (by kernel_rfl) rfl rfl rfl hb12 rfl rfl (Nat.le_of_ble_eq_true rfl) rfl) ?_
  rintro _ h17 n18 ⟨rfl, hb16⟩ s19 hn2 hf
  refine sq.w0 ?_
  have hs := hs.fresh z_n3 s19
  have hn := Nat.le_trans hn hn2
  refine sq.e (AWp.seq ?_)
  refine AWp.anyV pok [] [0, 1, 2, 3, 4, 5, 6, 7, 8, 9, 10, 11, 12, 13, 14, 15, 16, 17, 18] (by kernel_rfl) (by kernel_rfl) rfl (fun x fr fr' h n hd _ q => ⟨hd ▸ q.1, q.2⟩) ?_
  refine dq.c (v := .pointer (some ⟨n3, 0, none⟩)) rfl (by kernel_rfl) rfl rfl (by kernel_rfl) rfl ?_
  refine dq.g (v := .int .i64 (x11.1)) rfl (by kernel_rfl) rfl rfl (ld1 (P := Tryd.prog) (t := 2) (p := 0) (v := .int .i64 (x11.1)) (by kernel_rfl) (by kernel_rfl) hb16 rfl) rfl ?_
  refine dq.t (v := .bool (mayT x11.1)) rfl (by kernel_rfl) rfl (CallsF.fn rfl (by kernel_rfl) rfl rfl) (fun hf => mayT_spec _) hf rfl ?_
  intro n20 hn2 hf
  have hn := Nat.le_trans hn hn2
  rcases Bool.eq_false_or_eq_true (mayT x11.1) with c4_2 | c4_2
  ·rw [c4_2]
   refine dq.c (v := .bool false) rfl (by kernel_rfl) rfl rfl rfl rfl ?_
   refine dq.c (v := .bool false) rfl (by kernel_rfl) rfl rfl rfl rfl ?_
   refine dq.c (v := .int .i64 (i)) rfl (by kernel_rfl) (wantT (g := 4) (d := 16) rfl rfl rfl) rfl rfl rfl ?_
   refine dq.c (v := .bool (decide ((0 : Int) < i))) rfl (by kernel_rfl) (wantT (g := 4) (d := 16) rfl rfl rfl) rfl rfl rfl ?_
   refine dq.c (v := .bool (decide ((0 : Int) < i))) rfl (by kernel_rfl) (wantT (g := 4) (d := 16) rfl rfl rfl) rfl rfl rfl ?_
   by_cases c4_6 : (0 : Int) < i
   ·rw [decide_eq_true c4_6]
    refine dq.c (v := .pointer (some ⟨n3, 0, none⟩)) rfl (by kernel_rfl) (wantT (g := 7) (d := 19) rfl rfl rfl) rfl (by kernel_rfl) rfl ?_
    refine dq.g (v := .int .i64 (x11.1)) rfl (by kernel_rfl) (wantT (g := 7) (d := 19) rfl rfl rfl) rfl (ld1 (P := Tryd.prog) (t := 2) (p := 0) (v := .int .i64 (x11.1)) (by kernel_rfl) (by kernel_rfl) hb16 rfl) rfl ?_
    refine dq.c (v := .slice a (xs.length) cp) rfl (by kernel_rfl) (wantT (g := 7) (d := 19) rfl rfl rfl) rfl rfl rfl ?_
    refine dq.c (v := .int .i64 (i)) rfl (by kernel_rfl) (wantT (g := 7) (d := 19) rfl rfl rfl) rfl rfl rfl ?_
    refine dq.c (v := .int .i64 (i - 1)) rfl (by kernel_rfl) (wantT (g := 7) (d := 19) rfl rfl rfl) rfl (okI (wrap_i64 (by omega) (by omega))) rfl ?_
    have i27 : (0 : Int) ≤ (i - 1 : Int) := by omega
    obtain ⟨x28, hx_x28⟩ : ∃ x, (xs)[((i - 1 : Int)).toNat]? = some x := ⟨_, List.getElem?_eq_getElem (by omega)⟩
    obtain ⟨b21, o22, cs_b21, ow_b21, ci_b21, ie26, hb23, hc24, hr25⟩ := IsRow.at (P := Tryd.prog) (t := 41) (e := 53) (k := .i64) (by kernel_rfl) (by kernel_rfl) (hx.keep hs) i27 hx_x28
    refine dq.c (v := .pointer (some ⟨b21, o22, none⟩)) rfl (by kernel_rfl) (wantT (g := 7) (d := 19) rfl rfl rfl) rfl ie26 rfl ?_
    refine dq.c (v := .pointer (some ⟨b21, o22, none⟩)) rfl (by kernel_rfl) (wantT (g := 7) (d := 19) rfl rfl rfl) rfl (by kernel_rfl) rfl ?_
    refine dq.g (v := .int .i64 (x28.1)) rfl (by kernel_rfl) (wantT (g := 7) (d := 19) rfl rfl rfl) rfl (ld1 (P := Tryd.prog) (t := 2) (p := o22 + 0) (v := .int .i64 (x28.1)) (by kernel_rfl) (by kernel_rfl) hb23 (hc24 0 _ rfl)) rfl ?_
    refine dq.c (v := .bool (decide (x11.1 ≤ x28.1))) rfl (by kernel_rfl) (wantT (g := 7) (d := 19) rfl rfl rfl) rfl rfl rfl ?_
    refine dq.c (v := .bool (decide (x11.1 ≤ x28.1))) rfl (by kernel_rfl) (wantT (g := 4) (d := 16) rfl rfl rfl) rfl rfl rfl ?_
    refine dq.c (v := .bool (decide (x11.1 ≤ x28.1))) rfl (by kernel_rfl) rfl rfl rfl rfl ?_
    refine dq.e ?_
    by_cases c4_16 : x11.1 ≤ x28.1
    ·rw [decide_eq_true c4_16]
     refine AWp.condT rfl rfl ?_
     refine AWp.seq (AWp.rowV (l := _) pok ?_)
     refine sq.c (v := .bool false) rfl rfl rfl rfl ?_
     refine sq.e ?_
     refine AWp.ret ?_
     refine ⟨rfl, [.bool false], rfl, .bool false, rfl, hs, hn, ?_⟩
     show Value.bool false = .bool (mayS xs)
     rw [mayS_row hx_x11 (by omega) (by rw [show i.toNat - 1 = (i - 1).toNat by omega]; exact hx_x28) c4_16]
    ·rw [decide_eq_false c4_16]
     refine AWp.condF rfl rfl ?_
     refine AWp.skip (AWp.rowV (l := _) pok ?_)
     refine sq.c (v := .int .i64 (i + 1)) rfl rfl (okI (wrap_i64 (by omega) (by omega))) rfl ?_
     refine sq.c (v := .int .i64 (i + 1)) rfl rfl rfl rfl ?_
     refine sq.e ?_
     have hy : ∀ j : Nat, (j : Int) < i + 1 → okS xs j = true := by
      intro j hj
      by_cases e : j = i.toNat
      ·rw [e]; rw [okS_of hx_x11 (fun _ => by rw [show i.toNat - 1 = (i - 1).toNat by omega]; exact hx_x28), c4_2, decide_eq_true (show x28.1 < x11.1 by omega)]; simp
      ·exact hyes j (by omega)
     refine ⟨_, _, rfl, by omega, i + 1, rfl, hs, hn, hf, (by omega), (by omega), (hy), getV [undef, undef, (y1 2), .int .i64 (i), .pointer (some ⟨n3, 0, none⟩), undef, undef, undef, .bool true, .int .i64 (i), .pointer (some ⟨b4, o5, none⟩), .agg #[.int .i64 (x11.1), .int .u64 (x11.2)], .pointer (some ⟨n3, 0, none⟩), .int .i64 (x11.1), .bool true, .bool false, .bool false, .int .i64 (i), .bool true, .bool true, .pointer (some ⟨n3, 0, none⟩), .int .i64 (x11.1), .slice a (xs.length) cp, .int .i64 (i), .int .i64 (i - 1), .pointer (some ⟨b21, o22, none⟩), .pointer (some ⟨b21, o22, none⟩), .int .i64 (x28.1), .bool false, .bool false, .bool false, .int .i64 (i + 1)], rfl⟩
   ·rw [decide_eq_false c4_6]
    refine dq.s rfl (wantF (g := 7) (d := 19) rfl rfl rfl) rfl ?_
    refine dq.s rfl (wantF (g := 7) (d := 19) rfl rfl rfl) rfl ?_
    refine dq.s rfl (wantF (g := 7) (d := 19) rfl rfl rfl) rfl ?_
    refine dq.s rfl (wantF (g := 7) (d := 19) rfl rfl rfl) rfl ?_
    refine dq.s rfl (wantF (g := 7) (d := 19) rfl rfl rfl) rfl ?_
    refine dq.s rfl (wantF (g := 7) (d := 19) rfl rfl rfl) rfl ?_
    refine dq.s rfl (wantF (g := 7) (d := 19) rfl rfl rfl) rfl ?_
    refine dq.s rfl (wantF (g := 7) (d := 19) rfl rfl rfl) rfl ?_
    refine dq.s rfl (wantF (g := 7) (d := 19) rfl rfl rfl) rfl ?_
    refine dq.c (v := .bool false) rfl (by kernel_rfl) (wantT (g := 4) (d := 16) rfl rfl rfl) rfl rfl rfl ?_
    refine dq.c (v := .bool false) rfl (by kernel_rfl) rfl rfl rfl rfl ?_
    refine dq.e ?_
    refine AWp.condF rfl rfl ?_
    refine AWp.skip (AWp.rowV (l := _) pok ?_)
    refine sq.c (v := .int .i64 (i + 1)) rfl rfl (okI (wrap_i64 (by omega) (by omega))) rfl ?_
    refine sq.c (v := .int .i64 (i + 1)) rfl rfl rfl rfl ?_
    refine sq.e ?_
    have hy : ∀ j : Nat, (j : Int) < i + 1 → okS xs j = true := by
     intro j hj
     by_cases e : j = i.toNat
     ·rw [e]; rw [okS_of (y := x11) hx_x11 (fun e => by omega), c4_2, decide_eq_true (show i.toNat = 0 by omega)]; rfl
     ·exact hyes j (by omega)
    refine ⟨_, _, rfl, by omega, i + 1, rfl, hs, hn, hf, (by omega), (by omega), (hy), getV [undef, undef, (y1 2), .int .i64 (i), .pointer (some ⟨n3, 0, none⟩), undef, undef, undef, .bool true, .int .i64 (i), .pointer (some ⟨b4, o5, none⟩), .agg #[.int .i64 (x11.1), .int .u64 (x11.2)], .pointer (some ⟨n3, 0, none⟩), .int .i64 (x11.1), .bool true, .bool false, .bool false, .int .i64 (i), .bool false, .bool false, undef, undef, undef, undef, undef, undef, undef, undef, undef, .bool false, .bool false, .int .i64 (i + 1)], rfl⟩
  ·rw [c4_2]
   refine dq.c (v := .bool true) rfl (by kernel_rfl) rfl rfl rfl rfl ?_
   refine dq.c (v := .bool true) rfl (by kernel_rfl) rfl rfl rfl rfl ?_
   refine dq.s rfl (wantF (g := 4) (d := 16) rfl rfl rfl) rfl ?_
   refine dq.s rfl (wantF (g := 4) (d := 16) rfl rfl rfl) rfl ?_
   refine dq.s rfl (wantF (g := 4) (d := 16) rfl rfl rfl) rfl ?_
   refine dq.s rfl (wantU (g := 7) (d := 19) rfl rfl rfl) rfl ?_
   refine dq.s rfl (wantU (g := 7) (d := 19) rfl rfl rfl) rfl ?_
   refine dq.s rfl (wantU (g := 7) (d := 19) rfl rfl rfl) rfl ?_
   refine dq.s rfl (wantU (g := 7) (d := 19) rfl rfl rfl) rfl ?_
   refine dq.s rfl (wantU (g := 7) (d := 19) rfl rfl rfl) rfl ?_
   refine dq.s rfl (wantU (g := 7) (d := 19) rfl rfl rfl) rfl ?_
   refine dq.s rfl (wantU (g := 7) (d := 19) rfl rfl rfl) rfl ?_
   refine dq.s rfl (wantU (g := 7) (d := 19) rfl rfl rfl) rfl ?_
   refine dq.s rfl (wantU (g := 7) (d := 19) rfl rfl rfl) rfl ?_
   refine dq.s rfl (wantF (g := 4) (d := 16) rfl rfl rfl) rfl ?_
   refine dq.c (v := .bool true) rfl (by kernel_rfl) rfl rfl rfl rfl ?_
   refine dq.e ?_
   refine AWp.condT rfl rfl ?_
   refine AWp.seq (AWp.rowV (l := _) pok ?_)
   refine sq.c (v := .bool false) rfl rfl rfl rfl ?_
   refine sq.e ?_
   refine AWp.ret ?_
   refine ⟨rfl, [.bool false], rfl, .bool false, rfl, hs, hn, ?_⟩
   show Value.bool false = .bool (mayS xs)
   rw [mayS_bad hx_x11 c4_2]
 ·rw [decide_eq_false c2_0]
  refine AWp.condF rfl rfl ?_
  refine AWp.exit ?_
  refine AWp.seq (AWp.rowV (l := _) pok ?_)
  refine sq.c (v := .bool true) rfl rfl rfl rfl ?_
  refine sq.e ?_
  refine AWp.ret ?_
  refine ⟨rfl, [.bool true], rfl, .bool true, rfl, hs, hn, ?_⟩
  show Value.bool true = .bool (mayS xs)
  unfold mayS
  rw [all_range (fun j hj => hyes j (by omega))]
theorem cloneS_some {h : Heap} {n : Nat} {b o cp : Nat} (xs : List Samp) (hx : IsRow encSmp h (.slice (some ⟨b, o, none⟩) xs.length cp) xs) (hlen : xs.length < 1000000000000) :
    Makes Tryd.prog 34 [.slice (some ⟨b, o, none⟩) (xs.length) cp] h n ([]) (fun v h2 _ => OwnRow encSmp 53 h h2 v xs) := by
 refine Makes.free fun hf => ?_
 have hs : SubBut h h ([]) := .refl _ _
 have hn : n ≤ n := Nat.le_refl _
 have hf0 := hf
 refine Makes.of_bodyV (args := [.slice (some ⟨b, o, none⟩) (xs.length) cp]) (vs := [.slice (some ⟨b, o, none⟩) (xs.length) cp, undef, undef, undef, undef, undef, undef, undef]) Tryd.func34 rfl rfl ?_
 refine AWp.seq (AWp.rowV (l := _) pok ?_)
 refine sq.c (v := .slice none (0) (0)) rfl rfl rfl rfl ?_
 refine sq.e (AWp.seq (AWp.seq (AWp.rowV (l := _) pok ?_)))
 refine sq.c (v := .slice (some ⟨b, o, none⟩) (xs.length) cp) rfl rfl rfl rfl ?_
 refine sq.c (v := .bool false) rfl rfl (by kernel_rfl) rfl ?_
 refine sq.e ?_
 refine AWp.condF rfl rfl ?_
 refine AWp.skip (AWp.seq (AWp.rowV (l := _) pok ?_))
 refine sq.op rfl rfl (Does.build (e := 53) (cs := []) hf (fun _ _ => by kernel_rfl)) ?_
 rintro _ h2 n3 ⟨rfl, hb1⟩ s4 hn2 hf
 refine sq.w ?_
 have hs := hs.trans s4
 have hn := Nat.le_trans hn hn2
 refine sq.c (v := .slice (some ⟨b, o, none⟩) (xs.length) cp) rfl rfl rfl rfl ?_
 have hz0 : h.get n3 = none := hf0 _ hn
 have hfo := hf
 refine sq.op rfl rfl (Does.append (E := encSmp) (xs := []) (ys := xs) appSmp ⟨.slice 53, by kernel_rfl, fun _ q => by cases q⟩ hf hs (.inl ⟨rfl, .inr ⟨_, _, rfl⟩⟩) (hx.keep hs) rfl rfl (by simp only [List.length_nil]; omega) (by simp only [List.length_nil]; omega) hz0) ?_
 rintro v8 h5 n6 ⟨R_o, hs, hB9⟩ s7 hn2 hf
 refine sq.w ?_
 simp only [List.nil_append] at R_o
 have dn_o_n : ∀ c ∈ blkOf v8, c ≠ n := fun c hc => (hB9 c hc).elim (fun q => absurd q (by simp [blkOf])) (fun q => by rw [q]; exact (hfo.ne hb1).symm)
 have s7 : SubBut _ _ [] := s7.mono (by simp [blkOf])
 have d_o_n := dn_o_n
 obtain ⟨a10, cp11, rfl⟩ := R_o.slice
 have hn := Nat.le_trans hn hn2
 refine sq.c (v := .slice a10 (xs).length cp11) rfl rfl rfl rfl ?_
 refine sq.e ?_
 refine AWp.ret ?_
 refine ⟨rfl, [.slice a10 (xs).length cp11], rfl, .slice a10 (xs).length cp11, rfl, hs, hn, ?_⟩
 exact R_o
theorem cloneS_nil {h : Heap} {n : Nat}  :
    Makes Tryd.prog 34 [.slice none (0) (0)] h n ([]) (fun v h2 _ => OwnRow encSmp 53 h h2 v []) := by
 refine Makes.free fun hf => ?_
 have hs : SubBut h h ([]) := .refl _ _
 have hn : n ≤ n := Nat.le_refl _
 have hf0 := hf
 refine Makes.of_bodyV (args := [.slice none (0) (0)]) (vs := [.slice none (0) (0), undef, undef, undef, undef, undef, undef, undef]) Tryd.func34 rfl rfl ?_
 refine AWp.seq (AWp.rowV (l := _) pok ?_)
 refine sq.c (v := .slice none (0) (0)) rfl rfl rfl rfl ?_
 refine sq.e (AWp.seq (AWp.seq (AWp.rowV (l := _) pok ?_)))
 refine sq.c (v := .slice none (0) (0)) rfl rfl rfl rfl ?_
 refine sq.c (v := .bool true) rfl rfl (by kernel_rfl) rfl ?_
 refine sq.e ?_
 refine AWp.condT rfl rfl ?_
 refine AWp.seq (AWp.rowV (l := _) pok ?_)
 refine sq.c (v := .slice none (0) (0)) rfl rfl rfl rfl ?_
 refine sq.e ?_
 refine AWp.ret ?_
 refine ⟨rfl, [.slice none (0) (0)], rfl, .slice none (0) (0), rfl, hs, hn, ?_⟩
 exact OwnRow.nil
theorem samples_spec {h : Heap} {n : Nat} {a a2 : Option Addr} {cp cp2 : Nat} (xs ys : List Samp) (hx : IsRow encSmp h (.slice a xs.length cp) xs) (hy : IsRow encSmp h (.slice a2 ys.length cp2) ys) (hlen : xs.length < 4000000000000000000) :
    Tells Tryd.prog 17 [.slice a (xs.length) cp, .slice a2 (ys.length) cp2] h n (.bool (decide (xs = ys))) := by
 refine Makes.tells (Makes.free fun hf => ?_)
 have hs : SubBut h h ([]) := .refl _ _
 have hn : n ≤ n := Nat.le_refl _
 have hf0 := hf
 refine Makes.of_bodyV (args := [.slice a (xs.length) cp, .slice a2 (ys.length) cp2]) (vs := [.slice a (xs.length) cp, .slice a2 (ys.length) cp2, undef, undef, undef, undef, undef, undef, undef, undef, undef, undef, undef, undef, undef, undef, undef, undef, undef, undef, undef, undef, undef, undef, undef, undef]) Tryd.func17 rfl rfl ?_
 refine AWp.seq (AWp.rowV (l := _) pok ?_)
 refine sq.c (v := .bool false) rfl rfl rfl rfl ?_
 refine sq.e (AWp.seq (AWp.seq (AWp.rowV (l := _) pok ?_)))
 refine sq.c (v := .slice a (xs.length) cp) rfl rfl rfl rfl ?_
 refine sq.c (v := .int .i64 (((xs.length : Nat) : Int))) rfl rfl (by kernel_rfl) rfl ?_
 refine sq.c (v := .slice a2 (ys.length) cp2) rfl rfl rfl rfl ?_
 refine sq.c (v := .int .i64 (((ys.length : Nat) : Int))) rfl rfl (by kernel_rfl) rfl ?_
 refine sq.c (v := .bool (!decide ((((xs.length : Nat) : Int)) = (((ys.length : Nat) : Int))))) rfl rfl rfl rfl ?_
 refine sq.e ?_
 by_cases c1_4 : (((xs.length : Nat) : Int)) = (((ys.length : Nat) : Int))
 ·rw [decide_eq_true c1_4]
  refine AWp.condF rfl rfl ?_
  refine AWp.skip (AWp.seq (AWp.seq (AWp.rowV (l := _) pok ?_)))
  refine sq.c (v := .int .i64 (0)) rfl rfl rfl rfl ?_
  refine sq.e (AWp.block ?_)
  refine AWp.loopV (fun d vs h' n2 => ∃ (i : Int), d = ((xs.length : Nat) - i + 1).toNat ∧ h = h' ∧ n ≤ n2 ∧ Free h n2 ∧ (0 ≤ i) ∧ (i ≤ (xs.length : Nat)) ∧ (∀ j : Nat, (j : Int) < i → xs[j]? = ys[j]?) ∧ ∃ y1 : Nat → Value, vs = [.slice a (xs.length) cp, .slice a2 (ys.length) cp2, undef, undef, (y1 4), .int .i64 (i), .slice a (xs.length) cp, .int .i64 (((xs.length : Nat) : Int)), .slice a2 (ys.length) cp2, .int .i64 (((ys.length : Nat) : Int)), .bool false, (y1 11), (y1 12), (y1 13), (y1 14), (y1 15), (y1 16), (y1 17), (y1 18), (y1 19), (y1 20), (y1 21), (y1 22), (y1 23), (y1 24), (y1 25)]) (((xs.length : Nat) - (0 : Int) + 1).toNat) ⟨0, rfl, rfl, hn, hf, (by omega), (by omega), (fun j hj => by omega), getV [undef, undef, undef, undef, .bool false, undef, undef, undef, undef, undef, undef, undef, undef, undef, undef, undef, undef, undef, undef, undef, undef, undef, undef, undef, undef, undef], rfl⟩ ?_
  rintro d vs h' n2 ⟨i, rfl, rfl, hn, hf, hi0, hi1, hyes, y1, rfl⟩
  refine AWp.seq (AWp.seq (AWp.rowV (l := _) pok ?_))
  refine sq.c (v := .int .i64 (i)) rfl rfl rfl rfl ?_
  refine sq.c (v := .slice a (xs.length) cp) rfl rfl rfl rfl ?_
  refine sq.c (v := .int .i64 (((xs.length : Nat) : Int))) rfl rfl (by kernel_rfl) rfl ?_
  refine sq.c (v := .bool (decide (i < (((xs.length : Nat) : Int))))) rfl rfl rfl rfl ?_
  refine sq.e ?_
  by_cases c4_3 : i < (((xs.length : Nat) : Int))
  ·rw [decide_eq_true c4_3]
   refine AWp.condT rfl rfl ?_
   refine AWp.skip (AWp.seq (AWp.block (AWp.seq ?_)))
   refine AWp.anyV pok [] [0, 1, 2, 3, 4, 5, 6, 7, 8] (by kernel_rfl) (by kernel_rfl) rfl (fun x fr fr' h n hd _ q => ⟨hd ▸ q.1, q.2⟩) ?_
   refine dq.c (v := .slice a (xs.length) cp) rfl (by kernel_rfl) rfl rfl rfl rfl ?_
   refine dq.c (v := .int .i64 (i)) rfl (by kernel_rfl) rfl rfl rfl rfl ?_
   have i9 : (0 : Int) ≤ (i : Int) := by omega
   obtain ⟨x10, hx_x10⟩ : ∃ x, (xs)[((i : Int)).toNat]? = some x := ⟨_, List.getElem?_eq_getElem (by omega)⟩
   obtain ⟨b3, o4, cs_b3, ow_b3, ci_b3, ie8, hb5, hc6, hr7⟩ := IsRow.at (P := Tryd.prog) (t := 41) (e := 53) (k := .i64) (by kernel_rfl) (by kernel_rfl) (hx.keep hs) i9 hx_x10
   refine dq.c (v := .pointer (some ⟨b3, o4, none⟩)) rfl (by kernel_rfl) rfl rfl ie8 rfl ?_
   refine dq.g (v := .agg #[.int .i64 (x10.1), .int .u64 (x10.2)]) rfl (by kernel_rfl) rfl rfl (ldR (P := Tryd.prog) (t := 53) (k := 2) (xs := [.int .i64 (x10.1), .int .u64 (x10.2)]) (by kernel_rfl) (by kernel_rfl) hr7) rfl ?_
   refine dq.c (v := .slice a2 (ys.length) cp2) rfl (by kernel_rfl) rfl rfl rfl rfl ?_
   refine dq.c (v := .int .i64 (i)) rfl (by kernel_rfl) rfl rfl rfl rfl ?_
   have i17 : (0 : Int) ≤ (i : Int) := by omega
   obtain ⟨x18, hx_x18⟩ : ∃ x, (ys)[((i : Int)).toNat]? = some x := ⟨_, List.getElem?_eq_getElem (by omega)⟩
   obtain ⟨b11, o12, cs_b11, ow_b11, ci_b11, ie16, hb13, hc14, hr15⟩ := IsRow.at (P := Tryd.prog) (t := 41) (e := 53) (k := .i64) (by kernel_rfl) (by kernel_rfl) (hy.keep hs) i17 hx_x18
   refine dq.c (v := .pointer (some ⟨b11, o12, none⟩)) rfl (by kernel_rfl) rfl rfl ie16 rfl ?_
   refine dq.g (v := .agg #[.int .i64 (x18.1), .int .u64 (x18.2)]) rfl (by kernel_rfl) rfl rfl (ldR (P := Tryd.prog) (t := 53) (k := 2) (xs := [.int .i64 (x18.1), .int .u64 (x18.2)]) (by kernel_rfl) (by kernel_rfl) hr15) rfl ?_
   refine dq.c (v := .bool (!decide (x10 = x18))) rfl (by kernel_rfl) rfl rfl (smpNe _ _) rfl ?_
   refine dq.e ?_
   by_cases c6_8 : x10 = x18
   ·rw [decide_eq_true c6_8]
    refine AWp.condF rfl rfl ?_
    refine AWp.skip (AWp.rowV (l := _) pok ?_)
    refine sq.c (v := .int .i64 (i)) rfl rfl rfl rfl ?_
    refine sq.c (v := .int .i64 (i + 1)) rfl rfl (okI (wrap_i64 (by omega) (by omega))) rfl ?_
    refine sq.c (v := .int .i64 (i + 1)) rfl rfl rfl rfl ?_
    refine sq.e ?_
    have hy : ∀ j : Nat, (j : Int) < i + 1 → xs[j]? = ys[j]? := by
     intro j hj
     by_cases e : j = i.toNat
     ·rw [e, hx_x10, hx_x18, c6_8]
     ·exact hyes j (by omega)
    refine ⟨_, _, rfl, by omega, i + 1, rfl, rfl, hn, hf, (by omega), (by omega), (hy), getV [undef, undef, undef, undef, (y1 4), undef, undef, undef, undef, undef, undef, .int .i64 (i), .slice a (xs.length) cp, .int .i64 (((xs.length : Nat) : Int)), .bool true, .int .i64 (i), .int .i64 (i + 1), .slice a (xs.length) cp, .int .i64 (i), .pointer (some ⟨b3, o4, none⟩), .agg #[.int .i64 (x10.1), .int .u64 (x10.2)], .slice a2 (ys.length) cp2, .int .i64 (i), .pointer (some ⟨b11, o12, none⟩), .agg #[.int .i64 (x18.1), .int .u64 (x18.2)], .bool false], rfl⟩
   ·rw [decide_eq_false c6_8]
    refine AWp.condT rfl rfl ?_
    refine AWp.seq (AWp.rowV (l := _) pok ?_)
    refine sq.c (v := .bool false) rfl rfl rfl rfl ?_
    refine sq.e ?_
    refine AWp.ret ?_
    refine ⟨rfl, [.bool false], rfl, .bool false, rfl, hs, hn, ?_⟩
    show Value.bool false = .bool (decide (xs = ys))
    exact congrArg Value.bool (decide_eq_false (one_not hx_x10 hx_x18 c6_8)).symm
  ·rw [decide_eq_false c4_3]
   refine AWp.condF rfl rfl ?_
   refine AWp.exit ?_
   refine AWp.seq (AWp.rowV (l := _) pok ?_)
   refine sq.c (v := .bool true) rfl rfl rfl rfl ?_
   refine sq.e ?_
   refine AWp.ret ?_
   refine ⟨rfl, [.bool true], rfl, .bool true, rfl, hs, hn, ?_⟩
   show Value.bool true = .bool (decide (xs = ys))
   exact congrArg Value.bool (decide_eq_true (all_same (Int.ofNat.inj c1_4) (fun j hj => hyes j (by omega)))).symm
 ·rw [decide_eq_false c1_4]
  refine AWp.condT rfl rfl ?_
  refine AWp.seq (AWp.rowV (l := _) pok ?_)
  refine sq.c (v := .bool false) rfl rfl rfl rfl ?_
  refine sq.e ?_
  refine AWp.ret ?_
  refine ⟨rfl, [.bool false], rfl, .bool false, rfl, hs, hn, ?_⟩
  show Value.bool false = .bool (decide (xs = ys))
  exact congrArg Value.bool (decide_eq_false (fun e => c1_4 (by rw [e]))).symm
theorem row_shape {α : Type} {E : Enc α} {h : Heap} {v : Value} {xs : List α} (q : IsRow E h v xs) : (v = .slice none 0 0 ∧ xs = []) ∨ ∃ b o cap, v = .slice (some ⟨b, o, none⟩) xs.length cap := by
  rcases q with ⟨rfl, rfl | ⟨b, o, cap, rfl⟩⟩ | ⟨b, o, cap, cs, own, ci, rfl, _⟩
  · exact .inl ⟨rfl, rfl⟩
  · exact .inr ⟨b, o, cap, rfl⟩
  · exact .inr ⟨b, o, cap, rfl⟩
theorem cloneS {h : Heap} {n : Nat} {v : Value} (xs : List Samp) (hx : IsRow encSmp h v xs) (hlen : xs.length < 1000000000000) : Makes Tryd.prog 34 [v] h n [] fun u h2 _ => OwnRow encSmp 53 h h2 u xs := by
  rcases row_shape hx with ⟨rfl, rfl⟩ | ⟨b, o, cap, rfl⟩
  · exact cloneS_nil
  · exact cloneS_some xs hx hlen
theorem cloneL {h : Heap} {n : Nat} {v : Value} (xs : List Lab) (hx : IsRow encLab h v xs) (hlen : xs.length < 1000000) : Makes Tryd.prog 31 [v] h n [] fun u h2 _ => OwnRow encLab 61 h h2 u xs := by
  rcases row_shape hx with ⟨rfl, rfl⟩ | ⟨b, o, cap, rfl⟩
  · exact l52_nil
  · exact l52_some xs hx hlen
theorem put_spec {h : Heap} {n : Nat} {a a2 : Option Addr} {cp cp2 : Nat} (xs ys : List Samp) (hx : IsRow encSmp h (.slice a xs.length cp) xs) (hy : IsRow encSmp h (.slice a2 ys.length cp2) ys) (hm : mayS xs = true) (hlx : xs.length < 1000000000000) (hly : ys.length < 1000000000000) :
    Makes Tryd.prog 56 [.slice a (xs.length) cp, .slice a2 (ys.length) cp2] h n ([]) (fun v h2 _ => ∃ v1 v2, v = .tuple #[v1, v2, .int .i64 0] ∧ OwnRow encSmp 53 h h2 v1 (putS xs ys).1 ∧ OwnRow encVer 108 h h2 v2 (putS xs ys).2 ∧ ∀ c ∈ blkOf v1, c ∉ blkOf v2) := by
 refine Makes.free fun hf => ?_
 have hs : SubBut h h ([]) := .refl _ _
 have hn : n ≤ n := Nat.le_refl _
 have hf0 := hf
 refine Makes.of_bodyV (args := [.slice a (xs.length) cp, .slice a2 (ys.length) cp2]) (vs := [.slice a (xs.length) cp, .slice a2 (ys.length) cp2, undef, undef, undef, undef, undef, undef, undef, undef, undef, undef, undef, undef, undef, undef, undef, undef, undef, undef, undef, undef, undef, undef, undef, undef, undef, undef, undef, undef, undef, undef, undef, undef, undef, undef, undef]) Tryd.func56 rfl rfl ?_
 refine AWp.seq (AWp.rowV (l := _) pok ?_)
 refine sq.c (v := .slice none (0) (0)) rfl rfl rfl rfl ?_
 refine sq.c (v := .slice none (0) (0)) rfl rfl rfl rfl ?_
 refine sq.c (v := .int .i64 (0)) rfl rfl rfl rfl ?_
 refine sq.e (AWp.seq (AWp.seq (AWp.rowV (l := _) pok ?_)))
 refine sq.c (v := .slice a (xs.length) cp) rfl rfl rfl rfl ?_
 refine sq.t (v := .bool (mayS xs)) rfl (CallsF.fn rfl (by kernel_rfl) rfl rfl) (fun hf => mayS_spec _ (hx.keep hs) (by omega)) hf rfl ?_
 intro n1 hn2 hf
 have hn := Nat.le_trans hn hn2
 rcases Bool.eq_false_or_eq_true (mayS xs) with c1_1 | c1_1
 ·rw [c1_1]
  refine sq.c (v := .bool false) rfl rfl rfl rfl ?_
  refine sq.e ?_
  refine AWp.condF rfl rfl ?_
  refine AWp.skip (AWp.seq (AWp.rowV (l := _) pok ?_))
  refine sq.c (v := .slice a (xs.length) cp) rfl rfl rfl rfl ?_
  refine sq.k rfl (CallsF.fn rfl (by kernel_rfl) rfl rfl) (cloneS _ (hx.keep hs) hlx) ?_
  rintro v_o h2 n3 R_o s4 hn2 hf
  have R_o := R_o.from hs.sub
  obtain ⟨a0_o, cp0_o, rfl⟩ := R_o.slice
  refine sq.w ?_
  have hs := hs.trans s4
  have hn := Nat.le_trans hn hn2
  refine sq.c (v := .slice a0_o (xs).length cp0_o) rfl rfl rfl rfl ?_
  refine sq.e (AWp.seq (AWp.seq (AWp.rowV (l := _) pok ?_)))
  refine sq.c (v := .slice a2 (ys.length) cp2) rfl rfl rfl rfl ?_
  refine sq.c (v := .int .i64 (((ys.length : Nat) : Int))) rfl rfl (by kernel_rfl) rfl ?_
  refine sq.c (v := .int .i64 (0)) rfl rfl rfl rfl ?_
  refine sq.e (AWp.block ?_)
  refine AWp.loopV (fun d vs h6 n7 => ∃ (i : Int) (zs : List Samp) (ws : List Int) (a_o : Option Addr) (cp_o : Nat) (a_w : Option Addr) (cp_w : Nat), d = ((ys.length : Nat) - i + 1).toNat ∧ SubBut h h6 ([]) ∧ n ≤ n7 ∧ Free h6 n7 ∧ OwnRow encSmp 53 h h6 (.slice a_o (zs).length cp_o) (zs) ∧ OwnRow encVer 108 h h6 (.slice a_w (ws).length cp_w) (ws) ∧ (∀ c ∈ blkOf (.slice a_o (zs).length cp_o), c ∉ blkOf (.slice a_w (ws).length cp_w)) ∧ (0 ≤ i) ∧ (i ≤ (ys.length : Nat)) ∧ (zs = (putS xs (ys.take i.toNat)).1) ∧ (ws = (putS xs (ys.take i.toNat)).2) ∧ ∃ y5 : Nat → Value, vs = [.slice a (xs.length) cp, .slice a2 (ys.length) cp2, undef, undef, .slice a_o (zs.length) cp_o, .slice a_w (ws.length) cp_w, .int .i64 (0), undef, (y5 8), (y5 9), .slice a (xs.length) cp, .bool true, .bool false, .slice a (xs.length) cp, .slice a0_o (xs).length cp0_o, .slice a2 (ys.length) cp2, .int .i64 (((ys.length : Nat) : Int)), .int .i64 (i), (y5 18), (y5 19), (y5 20), (y5 21), (y5 22), (y5 23), (y5 24), (y5 25), (y5 26), (y5 27), (y5 28), (y5 29), (y5 30), (y5 31), (y5 32), (y5 33), (y5 34), undef, undef]) (((ys.length : Nat) - (0 : Int) + 1).toNat) ⟨0, xs, [], a0_o, cp0_o, none, 0, rfl, hs, hn, hf, R_o, OwnRow.nil, (by simp [blkOf]), (by omega), (by omega), (by simp [putS]), (by simp [putS]), getV [undef, undef, undef, undef, undef, undef, undef, undef, undef, undef, undef, undef, undef, undef, undef, undef, undef, undef, undef, undef, undef, undef, undef, undef, undef, undef, undef, undef, undef, undef, undef, undef, undef, undef, undef], rfl⟩ ?_
  rintro d vs h6 n7 ⟨i, zs, ws, a_o, cp_o, a_w, cp_w, rfl, hs, hn, hf, R_o, R_w, dd_o_w, hi0, hi1, hz, hw, y5, rfl⟩
  have hmz : mayS zs = true := by rw [hz]; exact putS_may _ _ hm
  have hln := putS_len (ys.take i.toNat) xs
  rw [← hz, ← hw, List.length_take] at hln
  refine AWp.seq (AWp.rowV (l := _) pok ?_)
  refine sq.c (v := .bool (decide (i < (((ys.length : Nat) : Int))))) rfl rfl rfl rfl ?_
  refine sq.e (AWp.seq ?_)
  by_cases c5_0 : i < (((ys.length : Nat) : Int))
  ·rw [decide_eq_true c5_0]
   refine AWp.condT rfl rfl ?_
   refine AWp.skip (AWp.seq (AWp.block (AWp.seq (AWp.rowV (l := _) pok ?_))))
   have i14 : (0 : Int) ≤ (i : Int) := by omega
   obtain ⟨x15, hx_x15⟩ : ∃ x, (ys)[((i : Int)).toNat]? = some x := ⟨_, List.getElem?_eq_getElem (by omega)⟩
   obtain ⟨b8, o9, cs_b8, ow_b8, ci_b8, ie13, hb10, hc11, hr12⟩ := IsRow.at (P := Tryd.prog) (t := 41) (e := 53) (k := .i64) (by kernel_rfl) (by kernel_rfl) (hy.keep hs) i14 hx_x15
   refine sq.c (v := .pointer (some ⟨b8, o9, none⟩)) rfl rfl ie13 rfl ?_
   refine sq.c (v := .agg #[.int .i64 (x15.1), .int .u64 (x15.2)]) rfl rfl (ldR (P := Tryd.prog) (t := 53) (k := 2) (xs := [.int .i64 (x15.1), .int .u64 (x15.2)]) (by kernel_rfl) (by kernel_rfl) hr12) rfl ?_
   have d_o_n7 : ∀ c ∈ blkOf (.slice a_o (zs).length cp_o), c ≠ n7 := fun c hc e => R_o.ne' (hf _ (Nat.le_refl _)) c hc (List.mem_singleton.2 e)
   have d_w_n7 : ∀ c ∈ blkOf (.slice a_w (ws).length cp_w), c ≠ n7 := fun c hc e => R_w.ne' (hf _ (Nat.le_refl _)) c hc (List.mem_singleton.2 e)
   have z_n7 : h.get n7 = none := hf0 _ hn
   refine sq.op rfl rfl (Does.alloc (cs := [.int .i64 (0), .int .u64 (0)]) hf (z := .agg #[.int .i64 (0), .int .u64 (0)]) (by kernel_rfl) rfl) ?_
   rintro _ h17 n18 ⟨rfl, hb16⟩ s19 hn2 hf
   refine sq.w ?_
   have R_o := R_o.keep s19
   have R_w := R_w.keep s19
   have hs := hs.trans s19
   have hn := Nat.le_trans hn hn2
   refine sq.op rfl rfl (Does.store (k := 2) (xs := [.int .i64 (x15.1), .int .u64 (x15.2)]) (cs' := [.int .i64 (x15.1), .int .u64 (x15.2)]) hf (by kernel_rfl) rfl rfl rfl hb16 rfl rfl (Nat.le_of_ble_eq_true rfl) rfl) ?_
   rintro _ h21 n22 ⟨rfl, hb20⟩ s23 hn2 hf
   refine sq.w0 ?_
   have R_o := R_o.but s23 (fun c hc hm => d_o_n7 c hc (List.mem_singleton.1 hm))
   have R_w := R_w.but s23 (fun c hc hm => d_w_n7 c hc (List.mem_singleton.1 hm))
   have hs := hs.fresh z_n7 s23
   have hn := Nat.le_trans hn hn2
   refine sq.e (AWp.seq (AWp.rowV (l := _) pok ?_))
   refine sq.c (v := .slice a_o (zs.length) cp_o) rfl rfl rfl rfl ?_
   refine sq.c (v := .agg #[.int .i64 (x15.1), .int .u64 (x15.2)]) rfl rfl (ldA (P := Tryd.prog) (t := 53) (p := 0) (k := 2) (xs := [.int .i64 (x15.1), .int .u64 (x15.2)]) (by kernel_rfl) (by kernel_rfl) hb20 rfl (Nat.le_of_ble_eq_true rfl)) rfl ?_
   refine sq.t (v := .int .u8 (judge zs x15)) rfl (CallsF.fn rfl (by kernel_rfl) rfl rfl) (fun hf => judge_spec _ R_o.is x15 (mayS_iff.1 hmz).2 (by omega)) hf rfl ?_
   intro n24 hn2 hf
   have hn := Nat.le_trans hn hn2
   refine sq.c (v := .int .u8 (judge zs x15)) rfl rfl rfl rfl ?_
   refine sq.e (AWp.seq (AWp.seq (AWp.rowV (l := _) pok ?_)))
   refine sq.c (v := .int .u8 (judge zs x15)) rfl rfl rfl rfl ?_
   refine sq.c (v := .bool (decide ((judge zs x15) = (1 : Int)))) rfl rfl rfl rfl ?_
   refine sq.e ?_
   by_cases c8_1 : (judge zs x15) = (1 : Int)
   ·rw [decide_eq_true c8_1]
    refine AWp.condT rfl rfl ?_
    refine AWp.rowV (l := _) pok ?_
    refine sq.c (v := .slice a_o (zs.length) cp_o) rfl rfl rfl rfl ?_
    refine sq.c (v := .agg #[.int .i64 (x15.1), .int .u64 (x15.2)]) rfl rfl (ldA (P := Tryd.prog) (t := 53) (p := 0) (k := 2) (xs := [.int .i64 (x15.1), .int .u64 (x15.2)]) (by kernel_rfl) (by kernel_rfl) hb20 rfl (Nat.le_of_ble_eq_true rfl)) rfl ?_
    have d_o_n24 : ∀ c ∈ blkOf (.slice a_o (zs).length cp_o), c ≠ n24 := fun c hc e => R_o.ne' (hf _ (Nat.le_refl _)) c hc (List.mem_singleton.2 e)
    have d_w_n24 : ∀ c ∈ blkOf (.slice a_w (ws).length cp_w), c ≠ n24 := fun c hc e => R_w.ne' (hf _ (Nat.le_refl _)) c hc (List.mem_singleton.2 e)
    refine sq.op rfl rfl (Does.build (e := 53) (cs := [.int .i64 (x15.1), .int .u64 (x15.2)]) hf (fun _ _ => by kernel_rfl)) ?_
    rintro _ h26 n27 ⟨rfl, hb25⟩ s28 hn2 hf
    refine sq.w ?_
    have R_o := R_o.keep s28
    have R_w := R_w.keep s28
    have hb20 := s28.sub _ _ hb20
    have hs := hs.trans s28
    have hn := Nat.le_trans hn hn2
    have hz0 : h.get n27 = none := hf0 _ hn
    have hfo := hf
    have G_w := R_w
    have hFo := R_o.ours
    refine sq.op rfl rfl (Does.append (E := encSmp) (xs := zs) (ys := [x15]) appSmp ⟨.slice 53, by kernel_rfl, fun _ q => by cases q⟩ hf hs R_o (IsRow.of (E := encSmp) (xs := [x15]) (cap := 1) hb25 (Nat.le_refl _)) rfl rfl (by simp only [List.length_cons, List.length_nil]; omega) (by simp only [List.length_cons, List.length_nil]; omega) hz0) ?_
    rintro v32 h29 n30 ⟨R_o, hs, hB33⟩ s31 hn2 hf
    refine sq.w ?_
    have dn_o_n7 : ∀ c ∈ blkOf v32, c ≠ n7 := fun c hc => (hB33 c hc).elim (fun q => d_o_n7 c q) (fun q => by rw [q]; exact (hfo.ne hb20).symm)
    have dn_o_n24 : ∀ c ∈ blkOf v32, c ≠ n24 := fun c hc => (hB33 c hc).elim (fun q => d_o_n24 c q) (fun q => by rw [q]; exact (hfo.ne hb25).symm)
    have ours_s31 := hFo
    have R_w := R_w.but s31 (fun c hc hm => (fun c hc hm => dd_o_w c hm hc) c hc hm)
    have hb20 := s31 _ _ (fun hm => d_o_n7 _ hm rfl) hb20
    have hb25 := s31 _ _ (fun hm => d_o_n24 _ hm rfl) hb25
    have dd_o_w : ∀ c ∈ blkOf v32, c ∉ blkOf (.slice a_w (ws).length cp_w) := fun c hc hm => (hB33 c hc).elim (fun q => dd_o_w c q hm) (fun q => by obtain ⟨o_, ho_⟩ := G_w.has c hm; exact hfo.ne ho_ q)
    have d_o_n7 := dn_o_n7
    have d_o_n24 := dn_o_n24
    obtain ⟨a34, cp35, rfl⟩ := R_o.slice
    have hn := Nat.le_trans hn hn2
    refine sq.c (v := .slice a34 (zs ++ [x15]).length cp35) rfl rfl rfl rfl ?_
    refine sq.e (AWp.rowV (l := _) pok ?_)
    refine sq.c (v := .slice a_w (ws.length) cp_w) rfl rfl rfl rfl ?_
    refine sq.c (v := .int .u8 (judge zs x15)) rfl rfl rfl rfl ?_
    have d_w_n30 : ∀ c ∈ blkOf (.slice a_w (ws).length cp_w), c ≠ n30 := fun c hc e => R_w.ne' (hf _ (Nat.le_refl _)) c hc (List.mem_singleton.2 e)
    refine sq.op rfl rfl (Does.build (e := 108) (cs := [.int .u8 (judge zs x15)]) hf (fun _ _ => by kernel_rfl)) ?_
    rintro _ h37 n38 ⟨rfl, hb36⟩ s39 hn2 hf
    refine sq.w ?_
    have R_w := R_w.keep s39
    have R_o := R_o.keep s39
    have hb20 := s39.sub _ _ hb20
    have hb25 := s39.sub _ _ hb25
    have hs := hs.trans s39
    have hn := Nat.le_trans hn hn2
    have hz0 : h.get n38 = none := hf0 _ hn
    have hfo := hf
    have G_o := R_o
    have hFo := R_w.ours
    refine sq.op rfl rfl (Does.append (E := encVer) (xs := ws) (ys := [judge zs x15]) appVer ⟨.slice 108, by kernel_rfl, fun _ q => by cases q⟩ hf hs R_w (IsRow.of (E := encVer) (xs := [judge zs x15]) (cap := 1) hb36 (Nat.le_refl _)) rfl rfl (by simp only [List.length_cons, List.length_nil]; omega) (by simp only [List.length_cons, List.length_nil]; omega) hz0) ?_
    rintro v43 h40 n41 ⟨R_w, hs, hB44⟩ s42 hn2 hf
    refine sq.w ?_
    have dn_w_n7 : ∀ c ∈ blkOf v43, c ≠ n7 := fun c hc => (hB44 c hc).elim (fun q => d_w_n7 c q) (fun q => by rw [q]; exact (hfo.ne hb20).symm)
    have dn_w_n24 : ∀ c ∈ blkOf v43, c ≠ n24 := fun c hc => (hB44 c hc).elim (fun q => d_w_n24 c q) (fun q => by rw [q]; exact (hfo.ne hb25).symm)
    have dn_w_n30 : ∀ c ∈ blkOf v43, c ≠ n30 := fun c hc => (hB44 c hc).elim (fun q => d_w_n30 c q) (fun q => by rw [q]; exact (hfo.ne hb36).symm)
    have ours_s42 := hFo
    have hb20 := s42 _ _ (fun hm => d_w_n7 _ hm rfl) hb20
    have hb25 := s42 _ _ (fun hm => d_w_n24 _ hm rfl) hb25
    have R_o := R_o.but s42 (fun c hc hm => dd_o_w c hc hm)
    have hb36 := s42 _ _ (fun hm => d_w_n30 _ hm rfl) hb36
    have d_w_n7 := dn_w_n7
    have d_w_n24 := dn_w_n24
    have dd_w_o : ∀ c ∈ blkOf v43, c ∉ blkOf (.slice a34 (zs ++ [x15]).length cp35) := fun c hc hm => (hB44 c hc).elim (fun q => (fun c hc hm => dd_o_w c hm hc) c q hm) (fun q => by obtain ⟨o_, ho_⟩ := G_o.has c hm; exact hfo.ne ho_ q)
    have d_w_n30 := dn_w_n30
    obtain ⟨a45, cp46, rfl⟩ := R_w.slice
    have hn := Nat.le_trans hn hn2
    refine sq.c (v := .slice a45 (ws ++ [judge zs x15]).length cp46) rfl rfl rfl rfl ?_
    refine sq.e (AWp.rowV (l := _) pok ?_)
    refine sq.c (v := .int .i64 (i + 1)) rfl rfl (okI (wrap_i64 (by omega) (by omega))) rfl ?_
    refine sq.c (v := .int .i64 (i + 1)) rfl rfl rfl rfl ?_
    refine sq.e ?_
    have hst := putS_snoc (ys.take i.toNat) xs x15
    rw [← take_snoc (by omega) hx_x15, ← hz, ← hw, if_pos c8_1] at hst
    refine ⟨_, _, rfl, by omega, i + 1, zs ++ [x15], ws ++ [judge zs x15], a34, cp35, a45, cp46, rfl, hs, hn, hf, R_o, R_w, (fun c hc hm => dd_w_o c hm hc), (by omega), (by omega), (by rw [hst]), (by rw [hst, c8_1]), getV [undef, undef, undef, undef, undef, undef, undef, undef, .pointer (some ⟨n7, 0, none⟩), .int .u8 (judge zs x15), undef, undef, undef, undef, undef, undef, undef, undef, .bool true, .pointer (some ⟨b8, o9, none⟩), .agg #[.int .i64 (x15.1), .int .u64 (x15.2)], .slice a_o (zs.length) cp_o, .agg #[.int .i64 (x15.1), .int .u64 (x15.2)], .int .u8 (judge zs x15), .int .u8 (judge zs x15), .bool true, .slice a_o (zs.length) cp_o, .agg #[.int .i64 (x15.1), .int .u64 (x15.2)], .slice (some ⟨n24, 0, none⟩) (1) (1), .slice a34 (zs ++ [x15]).length cp35, .slice a_w (ws.length) cp_w, .int .u8 (judge zs x15), .slice (some ⟨n30, 0, none⟩) (1) (1), .slice a45 (ws ++ [judge zs x15]).length cp46, .int .i64 (i + 1)], rfl⟩
   ·rw [decide_eq_false c8_1]
    refine AWp.condF rfl rfl ?_
    refine AWp.skip (AWp.rowV (l := _) pok ?_)
    refine sq.c (v := .slice a_w (ws.length) cp_w) rfl rfl rfl rfl ?_
    refine sq.c (v := .int .u8 (judge zs x15)) rfl rfl rfl rfl ?_
    have d_w_n24 : ∀ c ∈ blkOf (.slice a_w (ws).length cp_w), c ≠ n24 := fun c hc e => R_w.ne' (hf _ (Nat.le_refl _)) c hc (List.mem_singleton.2 e)
    refine sq.op rfl rfl (Does.build (e := 108) (cs := [.int .u8 (judge zs x15)]) hf (fun _ _ => by kernel_rfl)) ?_
    rintro _ h48 n49 ⟨rfl, hb47⟩ s50 hn2 hf
    refine sq.w ?_
    have R_o := R_o.keep s50
    have R_w := R_w.keep s50
    have hb20 := s50.sub _ _ hb20
    have hs := hs.trans s50
    have hn := Nat.le_trans hn hn2
    have hz0 : h.get n49 = none := hf0 _ hn
    have hfo := hf
    have G_o := R_o
    have hFo := R_w.ours
    refine sq.op rfl rfl (Does.append (E := encVer) (xs := ws) (ys := [judge zs x15]) appVer ⟨.slice 108, by kernel_rfl, fun _ q => by cases q⟩ hf hs R_w (IsRow.of (E := encVer) (xs := [judge zs x15]) (cap := 1) hb47 (Nat.le_refl _)) rfl rfl (by simp only [List.length_cons, List.length_nil]; omega) (by simp only [List.length_cons, List.length_nil]; omega) hz0) ?_
    rintro v54 h51 n52 ⟨R_w, hs, hB55⟩ s53 hn2 hf
    refine sq.w ?_
    have dn_w_n7 : ∀ c ∈ blkOf v54, c ≠ n7 := fun c hc => (hB55 c hc).elim (fun q => d_w_n7 c q) (fun q => by rw [q]; exact (hfo.ne hb20).symm)
    have dn_w_n24 : ∀ c ∈ blkOf v54, c ≠ n24 := fun c hc => (hB55 c hc).elim (fun q => d_w_n24 c q) (fun q => by rw [q]; exact (hfo.ne hb47).symm)
    have ours_s53 := hFo
    have R_o := R_o.but s53 (fun c hc hm => dd_o_w c hc hm)
    have hb20 := s53 _ _ (fun hm => d_w_n7 _ hm rfl) hb20
    have hb47 := s53 _ _ (fun hm => d_w_n24 _ hm rfl) hb47
    have dd_w_o : ∀ c ∈ blkOf v54, c ∉ blkOf (.slice a_o (zs).length cp_o) := fun c hc hm => (hB55 c hc).elim (fun q => (fun c hc hm => dd_o_w c hm hc) c q hm) (fun q => by obtain ⟨o_, ho_⟩ := G_o.has c hm; exact hfo.ne ho_ q)
    have d_w_n7 := dn_w_n7
    have d_w_n24 := dn_w_n24
    obtain ⟨a56, cp57, rfl⟩ := R_w.slice
    have hn := Nat.le_trans hn hn2
    refine sq.c (v := .slice a56 (ws ++ [judge zs x15]).length cp57) rfl rfl rfl rfl ?_
    refine sq.e (AWp.rowV (l := _) pok ?_)
    refine sq.c (v := .int .i64 (i + 1)) rfl rfl (okI (wrap_i64 (by omega) (by omega))) rfl ?_
    refine sq.c (v := .int .i64 (i + 1)) rfl rfl rfl rfl ?_
    refine sq.e ?_
    have hst := putS_snoc (ys.take i.toNat) xs x15
    rw [← take_snoc (by omega) hx_x15, ← hz, ← hw, if_neg c8_1] at hst
    refine ⟨_, _, rfl, by omega, i + 1, zs, ws ++ [judge zs x15], a_o, cp_o, a56, cp57, rfl, hs, hn, hf, R_o, R_w, (fun c hc hm => dd_w_o c hm hc), (by omega), (by omega), (by rw [hst]), (by rw [hst]), getV [undef, undef, undef, undef, undef, undef, undef, undef, .pointer (some ⟨n7, 0, none⟩), .int .u8 (judge zs x15), undef, undef, undef, undef, undef, undef, undef, undef, .bool true, .pointer (some ⟨b8, o9, none⟩), .agg #[.int .i64 (x15.1), .int .u64 (x15.2)], .slice a_o (zs.length) cp_o, .agg #[.int .i64 (x15.1), .int .u64 (x15.2)], .int .u8 (judge zs x15), .int .u8 (judge zs x15), .bool false, (y5 26), (y5 27), (y5 28), (y5 29), .slice a_w (ws.length) cp_w, .int .u8 (judge zs x15), .slice (some ⟨n24, 0, none⟩) (1) (1), .slice a56 (ws ++ [judge zs x15]).length cp57, .int .i64 (i + 1)], rfl⟩
  ·rw [decide_eq_false c5_0]
   refine AWp.condF rfl rfl ?_
   refine AWp.exit ?_
   refine AWp.seq (AWp.rowV (l := _) pok ?_)
   refine sq.c (v := .slice a_o (zs.length) cp_o) rfl rfl rfl rfl ?_
   refine sq.c (v := .slice a_w (ws.length) cp_w) rfl rfl rfl rfl ?_
   refine sq.c (v := .slice a_o (zs.length) cp_o) rfl rfl rfl rfl ?_
   refine sq.c (v := .slice a_w (ws.length) cp_w) rfl rfl rfl rfl ?_
   refine sq.c (v := .int .i64 (0)) rfl rfl rfl rfl ?_
   refine sq.e ?_
   refine AWp.ret ?_
   refine ⟨rfl, [.slice a_o (zs.length) cp_o, .slice a_w (ws.length) cp_w, .int .i64 (0)], rfl, .tuple #[.slice a_o (zs.length) cp_o, .slice a_w (ws.length) cp_w, .int .i64 (0)], rfl, hs, hn, ?_⟩
   rw [show i.toNat = ys.length by omega, List.take_length] at hz hw
   rw [hz] at R_o dd_o_w
   rw [hw] at R_w dd_o_w
   rw [hz, hw]
   exact ⟨_, _, rfl, R_o, R_w, dd_o_w⟩
 ·exfalso
  rw [hm] at c1_1; cases c1_1
def allK (s : ByteArray) (k : Int) : Bool := (List.range s.data.toList.length).all fun i => decide (k ≤ kindB (bt s (i : Nat)))
def nameB (s : ByteArray) : Bool := decide (1 ≤ s.data.toList.length ∧ s.data.toList.length ≤ 24) && allK s 2
def okSer (s : Ser) : Bool := mayB s.1 && s.2.all fun x => mayT x.1
def haB (b : Bat) : Bool := nameB b.clu && decide (1 ≤ b.epo ∧ b.epo ≤ 1099511627776)
def mayBat (b : Bat) : Bool := nameB b.ten && (haB b || decide (b.clu = ⟨#[]⟩ ∧ b.epo = 0)) && b.ser.all okSer
def Small (s : Ser) : Prop := s.1.length ≤ 1200 ∧ s.2.length < 6000 ∧ ∀ x ∈ s.1, x.1.data.toList.length < 6000 ∧ x.2.data.toList.length < 6000
def Smalls (ss : List Ser) : Prop := ss.length ≤ 1200 ∧ ∀ s ∈ ss, Small s
theorem Small.sz {s : Ser} (q : Small s) : ∀ x ∈ s.1, x.1.data.toList.length < 9223372036854775808 ∧ x.2.data.toList.length < 9223372036854775808 := fun x hx => by
  have := q.2.2 x hx; omega
def idxP {α : Type} (p : α → Bool) (xs : List α) : Int := match xs.findIdx? p with
  | some i => i
  | none => -1
theorem idxP_at {α : Type} {p : α → Bool} {xs : List α} {i : Int} {x : α} (h0 : 0 ≤ i) (hx : xs[i.toNat]? = some x) (h : p x = true) (hb : ∀ (j : Nat) (x : α), (j : Int) < i → xs[j]? = some x → p x = false) : idxP p xs = i := by
  have e : xs.findIdx? p = some i.toNat := by
    rw [List.findIdx?_eq_some_iff_getElem]
    obtain ⟨hlt, he⟩ := List.getElem?_eq_some_iff.1 hx
    refine ⟨hlt, by rw [he]; exact h, fun j hj => ?_⟩
    have hjl : j < xs.length := by omega
    have := hb j xs[j] (by omega) (List.getElem?_eq_getElem hjl)
    simpa using this
  unfold idxP
  rw [e]
  simp only; omega
theorem idxP_none {α : Type} {p : α → Bool} {xs : List α} (hb : ∀ (j : Nat) (x : α), j < xs.length → xs[j]? = some x → p x = false) : idxP p xs = -1 := by
  have e : xs.findIdx? p = none := by
    rw [List.findIdx?_eq_none_iff]
    intro x hx
    obtain ⟨j, hj⟩ := List.getElem?_of_mem hx
    exact hb j x (List.getElem?_eq_some_iff.1 hj).1 hj
  unfold idxP
  rw [e]
theorem idxP_any {α : Type} (p : α → Bool) (xs : List α) : decide (0 ≤ idxP p xs) = xs.any p := by
  unfold idxP
  cases e : xs.findIdx? p with
  | none =>
    rw [List.findIdx?_eq_none_iff] at e
    have : xs.any p = false := by rw [List.any_eq_false]; intro x hx; simpa using e x hx
    rw [this]; rfl
  | some i =>
    rw [List.findIdx?_eq_some_iff_getElem] at e
    obtain ⟨hlt, h1, _⟩ := e
    have : xs.any p = true := List.any_eq_true.2 ⟨_, List.getElem_mem hlt, h1⟩
    rw [this]
    simp
theorem any_not {α : Type} (p : α → Bool) (xs : List α) : (xs.any fun x => !p x) = !xs.all p := by
  rw [List.not_all_eq_any_not]
theorem all_spec {h : Heap} {n : Nat} (s : ByteArray) (k m : Int) (hlen : s.data.toList.length < 9223372036854775808) :
    Tells Tryd.prog 67 [.string (s), .int .i64 (k), .int .i64 (m)] h n (.bool (allK s k && decide ((s.data.toList.length : Nat) ≤ m))) := by
 refine Makes.tells (Makes.free fun hf => ?_)
 have hs : SubBut h h ([]) := .refl _ _
 have hn : n ≤ n := Nat.le_refl _
 have hf0 := hf
 refine Makes.of_bodyV (args := [.string (s), .int .i64 (k), .int .i64 (m)]) (vs := [.string (s), .int .i64 (k), .int .i64 (m), undef, undef, undef, undef, undef, undef, undef, undef, undef, undef, undef, undef, undef, undef, undef, undef, undef, undef, undef, undef, undef]) Tryd.func67 rfl rfl ?_
 refine AWp.seq (AWp.rowV (l := _) pok ?_)
 refine sq.c (v := .bool false) rfl rfl rfl rfl ?_
 refine sq.e (AWp.seq (AWp.seq (AWp.rowV (l := _) pok ?_)))
 refine sq.c (v := .string (s)) rfl rfl rfl rfl ?_
 refine sq.c (v := .int .i64 ((((s).data.toList.length : Nat) : Int))) rfl rfl (by kernel_rfl) rfl ?_
 refine sq.c (v := .int .i64 (0)) rfl rfl rfl rfl ?_
 refine sq.e (AWp.block ?_)
 refine AWp.loopV (fun d vs h' n2 => ∃ (i : Int), d = ((s.data.toList.length : Nat) - i + 1).toNat ∧ h = h' ∧ n ≤ n2 ∧ Free h n2 ∧ (0 ≤ i) ∧ (i ≤ (s.data.toList.length : Nat)) ∧ (∀ j : Nat, (j : Int) < i → decide (k ≤ kindB (bt s (j : Nat))) = true) ∧ ∃ y1 : Nat → Value, vs = [.string (s), .int .i64 (k), .int .i64 (m), undef, undef, undef, (y1 6), (y1 7), .string (s), .int .i64 ((((s).data.toList.length : Nat) : Int)), .int .i64 (i), (y1 11), (y1 12), (y1 13), (y1 14), (y1 15), (y1 16), (y1 17), (y1 18), (y1 19), undef, undef, undef, undef]) (((s.data.toList.length : Nat) - (0 : Int) + 1).toNat) ⟨0, rfl, rfl, hn, hf, (by omega), (by omega), (fun j hj => by omega), getV [undef, undef, undef, undef, undef, undef, .bool false, undef, undef, undef, undef, undef, undef, undef, undef, undef, undef, undef, undef, undef], rfl⟩ ?_
 rintro d vs h' n2 ⟨i, rfl, rfl, hn, hf, hi0, hi1, hyes, y1, rfl⟩
 refine AWp.seq (AWp.rowV (l := _) pok ?_)
 refine sq.c (v := .bool (decide (i < ((((s).data.toList.length : Nat) : Int))))) rfl rfl rfl rfl ?_
 refine sq.e (AWp.seq ?_)
 by_cases c2_0 : i < ((((s).data.toList.length : Nat) : Int))
 ·rw [decide_eq_true c2_0]
  refine AWp.condT rfl rfl ?_
  refine AWp.skip (AWp.seq (AWp.block (AWp.seq (AWp.rowV (l := _) pok ?_))))
  refine sq.c (v := .int .i64 (i)) rfl rfl rfl rfl ?_
  refine sq.c (v := .int .i64 (i)) rfl rfl rfl rfl ?_
  refine sq.e (AWp.seq (AWp.rowV (l := _) pok ?_))
  refine sq.c (v := .string (s)) rfl rfl rfl rfl ?_
  refine sq.c (v := .int .i64 (i)) rfl rfl rfl rfl ?_
  refine sq.c (v := .int .u8 (bt (s) (i))) rfl rfl (index_str (P := Tryd.prog) (t := 9) (s := s) (i := i) (k := .i64) (by kernel_rfl) (by omega) (by omega)) rfl ?_
  refine sq.t (v := .int .i64 (kindB (bt (s) (i)))) rfl (CallsF.fn rfl (by kernel_rfl) rfl rfl) (fun hf => of_spec _ (bt_lt _ _)) hf rfl ?_
  intro n3 hn2 hf
  have hn := Nat.le_trans hn hn2
  refine sq.c (v := .int .i64 (k)) rfl rfl rfl rfl ?_
  refine sq.c (v := .bool (decide ((kindB (bt (s) (i))) < k))) rfl rfl rfl rfl ?_
  refine sq.e ?_
  by_cases c4_5 : (kindB (bt (s) (i))) < k
  ·rw [decide_eq_true c4_5]
   refine AWp.condT rfl rfl ?_
   refine AWp.seq (AWp.rowV (l := _) pok ?_)
   refine sq.c (v := .bool false) rfl rfl rfl rfl ?_
   refine sq.e ?_
   refine AWp.ret ?_
   refine ⟨rfl, [.bool false], rfl, .bool false, rfl, hs, hn, ?_⟩
   show Value.bool false = .bool (allK s k && decide ((s.data.toList.length : Nat) ≤ m))
   have hx : allK s k = false := by
    unfold allK
    exact all_range_false (i := i.toNat) (by omega) (by
     show decide (k ≤ kindB (bt s ((i.toNat : Nat) : Int))) = false
     rw [show ((i.toNat : Nat) : Int) = i by omega]
     exact decide_eq_false (by omega))
   rw [hx]; rfl
  ·rw [decide_eq_false c4_5]
   refine AWp.condF rfl rfl ?_
   refine AWp.skip (AWp.rowV (l := _) pok ?_)
   refine sq.c (v := .int .i64 (i + 1)) rfl rfl (okI (wrap_i64 (by omega) (by omega))) rfl ?_
   refine sq.c (v := .int .i64 (i + 1)) rfl rfl rfl rfl ?_
   refine sq.e ?_
   have hy : ∀ j : Nat, (j : Int) < i + 1 → decide (k ≤ kindB (bt s (j : Nat))) = true := by
    intro j hj
    rcases Int.lt_or_eq_of_le (show (j : Int) ≤ i by omega) with q | q
    ·exact hyes j q
    ·subst q; exact decide_eq_true (by omega)
   refine ⟨_, _, rfl, by omega, i + 1, rfl, rfl, hn, hf, (by omega), (by omega), (hy), getV [undef, undef, undef, undef, undef, undef, (y1 6), .int .i64 (i), undef, undef, undef, .bool true, .int .i64 (i), .string (s), .int .i64 (i), .int .u8 (bt (s) (i)), .int .i64 (kindB (bt (s) (i))), .int .i64 (k), .bool false, .int .i64 (i + 1)], rfl⟩
 ·rw [decide_eq_false c2_0]
  refine AWp.condF rfl rfl ?_
  refine AWp.exit ?_
  refine AWp.seq (AWp.rowV (l := _) pok ?_)
  refine sq.c (v := .string (s)) rfl rfl rfl rfl ?_
  refine sq.c (v := .int .i64 ((((s).data.toList.length : Nat) : Int))) rfl rfl (by kernel_rfl) rfl ?_
  refine sq.c (v := .int .i64 (m)) rfl rfl rfl rfl ?_
  refine sq.c (v := .bool (decide (((((s).data.toList.length : Nat) : Int)) ≤ m))) rfl rfl rfl rfl ?_
  refine sq.c (v := .bool (decide (((((s).data.toList.length : Nat) : Int)) ≤ m))) rfl rfl rfl rfl ?_
  refine sq.e ?_
  refine AWp.ret ?_
  refine ⟨rfl, [.bool (decide (((((s).data.toList.length : Nat) : Int)) ≤ m))], rfl, .bool (decide (((((s).data.toList.length : Nat) : Int)) ≤ m)), rfl, hs, hn, ?_⟩
  show Value.bool (decide (((((s).data.toList.length : Nat) : Int)) ≤ m)) = .bool (allK s k && decide ((s.data.toList.length : Nat) ≤ m))
  have hx : allK s k = true := all_range (fun j hj => hyes j (by omega))
  rw [hx, Bool.true_and]
theorem name_spec {h : Heap} {n : Nat} (s : ByteArray) (hlen : s.data.toList.length < 9223372036854775808) :
    Tells Tryd.prog 50 [.string (s)] h n (.bool (nameB s)) := by
 refine Makes.tells (Makes.free fun hf => ?_)
 have hs : SubBut h h ([]) := .refl _ _
 have hn : n ≤ n := Nat.le_refl _
 have hf0 := hf
 refine Makes.of_bodyV (args := [.string (s)]) (vs := [.string (s), undef, undef, undef, undef, undef, undef, undef, undef]) Tryd.func50 rfl rfl ?_
 refine AWp.seq (AWp.rowV (l := _) pok ?_)
 refine sq.c (v := .bool false) rfl rfl rfl rfl ?_
 refine sq.e (AWp.seq (AWp.rowV (l := _) pok ?_))
 refine sq.c (v := .string (s)) rfl rfl rfl rfl ?_
 refine sq.c (v := .bool (!decide (s = (⟨#[]⟩ : ByteArray)))) rfl rfl (neD _ _) rfl ?_
 refine sq.c (v := .bool (!decide (s = (⟨#[]⟩ : ByteArray)))) rfl rfl rfl rfl ?_
 by_cases c1_1 : s = (⟨#[]⟩ : ByteArray)
 ·rw [decide_eq_true c1_1]
  refine sq.s (wantF (g := 2) (d := 5) rfl rfl rfl) rfl ?_
  refine sq.s (wantF (g := 2) (d := 5) rfl rfl rfl) rfl ?_
  refine sq.c (v := .bool false) rfl rfl rfl rfl ?_
  refine sq.c (v := .bool false) rfl rfl rfl rfl ?_
  refine sq.e ?_
  refine AWp.ret ?_
  refine ⟨rfl, [.bool false], rfl, .bool false, rfl, hs, hn, ?_⟩
  show Value.bool false = .bool (nameB s)
  subst c1_1; rfl
 ·rw [decide_eq_false c1_1]
  refine sq.c (v := .string (s)) (wantT (g := 2) (d := 5) rfl rfl rfl) rfl rfl rfl ?_
  refine sq.t (v := .bool (allK s 2 && decide ((s.data.toList.length : Nat) ≤ (24 : Int)))) (wantT (g := 2) (d := 5) rfl rfl rfl) (CallsF.fn rfl (by kernel_rfl) rfl rfl) (fun hf => all_spec _ _ _ hlen) hf rfl ?_
  intro n1 hn2 hf
  have hn := Nat.le_trans hn hn2
  refine sq.c (v := .bool (allK s 2 && decide ((s.data.toList.length : Nat) ≤ (24 : Int)))) rfl rfl rfl rfl ?_
  refine sq.c (v := .bool (allK s 2 && decide ((s.data.toList.length : Nat) ≤ (24 : Int)))) rfl rfl rfl rfl ?_
  refine sq.e ?_
  refine AWp.ret ?_
  refine ⟨rfl, [.bool (allK s 2 && decide ((s.data.toList.length : Nat) ≤ (24 : Int)))], rfl, .bool (allK s 2 && decide ((s.data.toList.length : Nat) ≤ (24 : Int))), rfl, hs, hn, ?_⟩
  show Value.bool (allK s 2 && decide ((s.data.toList.length : Nat) ≤ (24 : Int))) = .bool (nameB s)
  unfold nameB
  have hp := bt0_pos c1_1
  rw [Bool.and_comm]
  exact congrArg Value.bool (congrArg (fun z => z && allK s 2) (decide_eq_decide.2 (by omega)))
theorem late_spec {h : Heap} {n : Nat} (x : Samp) :
    Tells Tryd.prog 51 [.agg #[.int .i64 (x.1), .int .u64 (x.2)]] h n (.bool (!mayT x.1)) := by
 refine Makes.tells (Makes.free fun hf => ?_)
 have hs : SubBut h h ([]) := .refl _ _
 have hn : n ≤ n := Nat.le_refl _
 have hf0 := hf
 refine Makes.of_bodyV (args := [.agg #[.int .i64 (x.1), .int .u64 (x.2)]]) (vs := [.agg #[.int .i64 (x.1), .int .u64 (x.2)], undef, undef, undef, undef, undef, undef, undef, undef, undef, undef]) Tryd.func51 rfl rfl ?_
 refine AWp.seq (AWp.rowV (l := _) pok ?_)
 refine sq.op rfl rfl (Does.box (cs := [.int .i64 (x.1), .int .u64 (x.2)]) hf rfl rfl) ?_
 rintro _ h2 n3 ⟨rfl, hb1⟩ s4 hn2 hf
 refine sq.w ?_
 have hs := hs.trans s4
 have hn := Nat.le_trans hn hn2
 refine sq.c (v := .bool false) rfl rfl rfl rfl ?_
 refine sq.e (AWp.seq (AWp.rowV (l := _) pok ?_))
 refine sq.c (v := .pointer (some ⟨n, 0, none⟩)) rfl rfl (by kernel_rfl) rfl ?_
 refine sq.c (v := .int .i64 (x.1)) rfl rfl (ld1 (P := Tryd.prog) (t := 2) (p := 0) (v := .int .i64 (x.1)) (by kernel_rfl) (by kernel_rfl) hb1 rfl) rfl ?_
 refine sq.c (v := .bool (decide (x.1 < (0 : Int)))) rfl rfl rfl rfl ?_
 refine sq.c (v := .bool (decide (x.1 < (0 : Int)))) rfl rfl rfl rfl ?_
 by_cases c1_2 : x.1 < (0 : Int)
 ·rw [decide_eq_true c1_2]
  refine sq.s (wantF (g := 3) (d := 6) rfl rfl rfl) rfl ?_
  refine sq.s (wantF (g := 3) (d := 6) rfl rfl rfl) rfl ?_
  refine sq.s (wantF (g := 3) (d := 6) rfl rfl rfl) rfl ?_
  refine sq.c (v := .bool true) rfl rfl rfl rfl ?_
  refine sq.c (v := .bool true) rfl rfl rfl rfl ?_
  refine sq.e ?_
  refine AWp.ret ?_
  refine ⟨rfl, [.bool true], rfl, .bool true, rfl, hs, hn, ?_⟩
  show Value.bool true = .bool (!mayT x.1)
  unfold mayT
  rw [decide_eq_false (by omega)]; rfl
 ·rw [decide_eq_false c1_2]
  refine sq.c (v := .pointer (some ⟨n, 0, none⟩)) (wantT (g := 3) (d := 6) rfl rfl rfl) rfl (by kernel_rfl) rfl ?_
  refine sq.c (v := .int .i64 (x.1)) (wantT (g := 3) (d := 6) rfl rfl rfl) rfl (ld1 (P := Tryd.prog) (t := 2) (p := 0) (v := .int .i64 (x.1)) (by kernel_rfl) (by kernel_rfl) hb1 rfl) rfl ?_
  refine sq.c (v := .bool (decide ((1125899906842624 : Int) < x.1))) (wantT (g := 3) (d := 6) rfl rfl rfl) rfl rfl rfl ?_
  refine sq.c (v := .bool (decide ((1125899906842624 : Int) < x.1))) rfl rfl rfl rfl ?_
  refine sq.c (v := .bool (decide ((1125899906842624 : Int) < x.1))) rfl rfl rfl rfl ?_
  refine sq.e ?_
  refine AWp.ret ?_
  refine ⟨rfl, [.bool (decide ((1125899906842624 : Int) < x.1))], rfl, .bool (decide ((1125899906842624 : Int) < x.1)), rfl, hs, hn, ?_⟩
  show Value.bool (decide ((1125899906842624 : Int) < x.1)) = .bool (!mayT x.1)
  unfold mayT
  rw [← decide_not]; exact congrArg Value.bool (decide_eq_decide.2 (by omega))
theorem idx1_spec {h : Heap} {n : Nat} {a : Option Addr} {cp : Nat} (xs : List Samp) (hx : IsRow encSmp h (.slice a xs.length cp) xs) (hlen : xs.length < 4000000000000000000) :
    Tells Tryd.prog 71 [.slice a (xs.length) cp, .func (.func 51) #[] #[]] h n (.int .i64 (idxP (fun x : Samp => !mayT x.1) xs)) := by
 refine Makes.tells (Makes.free fun hf => ?_)
 have hs : SubBut h h ([]) := .refl _ _
 have hn : n ≤ n := Nat.le_refl _
 have hf0 := hf
 refine Makes.of_bodyV (args := [.slice a (xs.length) cp, .func (.func 51) #[] #[]]) (vs := [.slice a (xs.length) cp, .func (.func 51) #[] #[], undef, undef, undef, undef, undef, undef, undef, undef, undef, undef, undef, undef, undef, undef, undef, undef, undef]) Tryd.func71 rfl rfl ?_
 refine AWp.seq (AWp.rowV (l := _) pok ?_)
 refine sq.c (v := .int .i64 (0)) rfl rfl rfl rfl ?_
 refine sq.e (AWp.seq (AWp.seq (AWp.rowV (l := _) pok ?_)))
 refine sq.c (v := .slice a (xs.length) cp) rfl rfl rfl rfl ?_
 refine sq.c (v := .int .i64 (((xs.length : Nat) : Int))) rfl rfl (by kernel_rfl) rfl ?_
 refine sq.c (v := .int .i64 (0)) rfl rfl rfl rfl ?_
 refine sq.e (AWp.block ?_)
 refine AWp.loopV (fun d vs h' n2 => ∃ (i : Int), d = ((xs.length : Nat) - i + 1).toNat ∧ h = h' ∧ n ≤ n2 ∧ Free h n2 ∧ (0 ≤ i) ∧ (i ≤ (xs.length : Nat)) ∧ (∀ (j : Nat) x, (j : Int) < i → xs[j]? = some x → (!mayT x.1) = false) ∧ ∃ y1 : Nat → Value, vs = [.slice a (xs.length) cp, .func (.func 51) #[] #[], undef, undef, (y1 4), (y1 5), .slice a (xs.length) cp, .int .i64 (((xs.length : Nat) : Int)), .int .i64 (i), (y1 9), (y1 10), (y1 11), (y1 12), (y1 13), (y1 14), (y1 15), (y1 16), (y1 17), (y1 18)]) (((xs.length : Nat) - (0 : Int) + 1).toNat) ⟨0, rfl, rfl, hn, hf, (by omega), (by omega), (fun j x hj => by omega), getV [undef, undef, undef, undef, .int .i64 (0), undef, undef, undef, undef, undef, undef, undef, undef, undef, undef, undef, undef, undef, undef], rfl⟩ ?_
 rintro d vs h' n2 ⟨i, rfl, rfl, hn, hf, hi0, hi1, hyes, y1, rfl⟩
 refine AWp.seq (AWp.rowV (l := _) pok ?_)
 refine sq.c (v := .bool (decide (i < (((xs.length : Nat) : Int))))) rfl rfl rfl rfl ?_
 refine sq.e (AWp.seq ?_)
 by_cases c2_0 : i < (((xs.length : Nat) : Int))
 ·rw [decide_eq_true c2_0]
  refine AWp.condT rfl rfl ?_
  refine AWp.skip (AWp.seq (AWp.block (AWp.seq (AWp.rowV (l := _) pok ?_))))
  refine sq.c (v := .int .i64 (i)) rfl rfl rfl rfl ?_
  refine sq.c (v := .int .i64 (i)) rfl rfl rfl rfl ?_
  refine sq.e (AWp.seq (AWp.rowV (l := _) pok ?_))
  refine sq.c (v := .func (.func 51) #[] #[]) rfl rfl rfl rfl ?_
  refine sq.c (v := .slice a (xs.length) cp) rfl rfl rfl rfl ?_
  refine sq.c (v := .int .i64 (i)) rfl rfl rfl rfl ?_
  have i9 : (0 : Int) ≤ (i : Int) := by omega
  obtain ⟨x10, hx_x10⟩ : ∃ x, (xs)[((i : Int)).toNat]? = some x := ⟨_, List.getElem?_eq_getElem (by omega)⟩
  obtain ⟨b3, o4, cs_b3, ow_b3, ci_b3, ie8, hb5, hc6, hr7⟩ := IsRow.at (P := Tryd.prog) (t := 41) (e := 53) (k := .i64) (by kernel_rfl) (by kernel_rfl) (hx.keep hs) i9 hx_x10
  refine sq.c (v := .pointer (some ⟨b3, o4, none⟩)) rfl rfl ie8 rfl ?_
  refine sq.c (v := .agg #[.int .i64 (x10.1), .int .u64 (x10.2)]) rfl rfl (ldR (P := Tryd.prog) (t := 53) (k := 2) (xs := [.int .i64 (x10.1), .int .u64 (x10.2)]) (by kernel_rfl) (by kernel_rfl) hr7) rfl ?_
  refine sq.t (v := .bool (!mayT x10.1)) rfl (CallsF.val rfl rfl (by kernel_rfl) rfl rfl) (fun hf => late_spec x10) hf rfl ?_
  intro n11 hn2 hf
  have hn := Nat.le_trans hn hn2
  refine sq.e ?_
  rcases Bool.eq_false_or_eq_true (!mayT x10.1) with c4_5 | c4_5
  ·rw [c4_5]
   refine AWp.condT rfl rfl ?_
   refine AWp.seq (AWp.rowV (l := _) pok ?_)
   refine sq.c (v := .int .i64 (i)) rfl rfl rfl rfl ?_
   refine sq.c (v := .int .i64 (i)) rfl rfl rfl rfl ?_
   refine sq.e ?_
   refine AWp.ret ?_
   refine ⟨rfl, [.int .i64 (i)], rfl, .int .i64 (i), rfl, hs, hn, ?_⟩
   show Value.int .i64 (i) = .int .i64 (idxP (fun x : Samp => !mayT x.1) xs)
   rw [idxP_at hi0 hx_x10 c4_5 hyes]
  ·rw [c4_5]
   refine AWp.condF rfl rfl ?_
   refine AWp.skip (AWp.rowV (l := _) pok ?_)
   refine sq.c (v := .int .i64 (i + 1)) rfl rfl (okI (wrap_i64 (by omega) (by omega))) rfl ?_
   refine sq.c (v := .int .i64 (i + 1)) rfl rfl rfl rfl ?_
   refine sq.e ?_
   have hy : ∀ (j : Nat) x, (j : Int) < i + 1 → xs[j]? = some x → (!mayT x.1) = false := by
    intro j x hj hx2
    by_cases e : j = i.toNat
    ·subst e; rw [hx_x10] at hx2; cases hx2; exact c4_5
    ·exact hyes j x (by omega) hx2
   refine ⟨_, _, rfl, by omega, i + 1, rfl, rfl, hn, hf, (by omega), (by omega), (hy), getV [undef, undef, undef, undef, (y1 4), .int .i64 (i), undef, undef, undef, .bool true, .int .i64 (i), .func (.func 51) #[] #[], .slice a (xs.length) cp, .int .i64 (i), .pointer (some ⟨b3, o4, none⟩), .agg #[.int .i64 (x10.1), .int .u64 (x10.2)], .bool false, (y1 17), .int .i64 (i + 1)], rfl⟩
 ·rw [decide_eq_false c2_0]
  refine AWp.condF rfl rfl ?_
  refine AWp.exit ?_
  refine AWp.seq (AWp.rowV (l := _) pok ?_)
  refine sq.c (v := .int .i64 (-1)) rfl rfl rfl rfl ?_
  refine sq.e ?_
  refine AWp.ret ?_
  refine ⟨rfl, [.int .i64 (-1)], rfl, .int .i64 (-1), rfl, hs, hn, ?_⟩
  show Value.int .i64 (-1) = .int .i64 (idxP (fun x : Samp => !mayT x.1) xs)
  rw [idxP_none (fun j x hj hx2 => hyes j x (by omega) hx2)]
theorem cont1_spec {h : Heap} {n : Nat} {a : Option Addr} {cp : Nat} (xs : List Samp) (hx : IsRow encSmp h (.slice a xs.length cp) xs) (hlen : xs.length < 4000000000000000000) :
    Tells Tryd.prog 55 [.slice a (xs.length) cp, .func (.func 51) #[] #[]] h n (.bool (xs.any (fun x : Samp => !mayT x.1))) := by
 refine Makes.tells (Makes.free fun hf => ?_)
 have hs : SubBut h h ([]) := .refl _ _
 have hn : n ≤ n := Nat.le_refl _
 have hf0 := hf
 refine Makes.of_bodyV (args := [.slice a (xs.length) cp, .func (.func 51) #[] #[]]) (vs := [.slice a (xs.length) cp, .func (.func 51) #[] #[], undef, undef, undef, undef, undef, undef, undef]) Tryd.func55 rfl rfl ?_
 refine AWp.seq (AWp.rowV (l := _) pok ?_)
 refine sq.c (v := .bool false) rfl rfl rfl rfl ?_
 refine sq.e (AWp.seq (AWp.rowV (l := _) pok ?_))
 refine sq.c (v := .slice a (xs.length) cp) rfl rfl rfl rfl ?_
 refine sq.c (v := .func (.func 51) #[] #[]) rfl rfl rfl rfl ?_
 refine sq.t (v := .int .i64 (idxP (fun x : Samp => !mayT x.1) xs)) rfl (CallsF.fn rfl (by kernel_rfl) rfl rfl) (fun hf => idx1_spec _ hx hlen) hf rfl ?_
 intro n1 hn2 hf
 have hn := Nat.le_trans hn hn2
 refine sq.c (v := .bool (decide ((0 : Int) ≤ (idxP (fun x : Samp => !mayT x.1) xs)))) rfl rfl rfl rfl ?_
 refine sq.c (v := .bool (decide ((0 : Int) ≤ (idxP (fun x : Samp => !mayT x.1) xs)))) rfl rfl rfl rfl ?_
 refine sq.e ?_
 refine AWp.ret ?_
 refine ⟨rfl, [.bool (decide ((0 : Int) ≤ (idxP (fun x : Samp => !mayT x.1) xs)))], rfl, .bool (decide ((0 : Int) ≤ (idxP (fun x : Samp => !mayT x.1) xs))), rfl, hs, hn, ?_⟩
 show Value.bool (decide ((0 : Int) ≤ (idxP (fun x : Samp => !mayT x.1) xs))) = .bool (xs.any (fun x : Samp => !mayT x.1))
 rw [← idxP_any]
theorem bad2_spec {h : Heap} {n : Nat} {a a2 : Option Addr} {cp cp2 : Nat} (ls : List Lab) (xs : List Samp) (hl : IsRow encLab h (.slice a ls.length cp) ls) (hx : IsRow encSmp h (.slice a2 xs.length cp2) xs) {bl : Nat} {cl : CI} (hbl : h.get bl = some (.cells [.func (.func 51) #[] #[]] true cl)) (hld : Laid0 h) (hsm : Small (ls, xs)) :
    Tells Tryd.prog 53 [.agg #[.slice a (ls.length) cp, .slice a2 (xs.length) cp2], .pointer (some ⟨bl, 0, none⟩)] h n (.bool (!okSer (ls, xs))) := by
 refine Makes.tells (Makes.free fun hf => ?_)
 have hs1 : ls.length ≤ 1200 := hsm.1
 have hs2 : xs.length < 6000 := hsm.2.1
 have hs : SubBut h h ([]) := .refl _ _
 have hn : n ≤ n := Nat.le_refl _
 have hf0 := hf
 refine Makes.of_bodyV (args := [.agg #[.slice a (ls.length) cp, .slice a2 (xs.length) cp2], .pointer (some ⟨bl, 0, none⟩)]) (vs := [.agg #[.slice a (ls.length) cp, .slice a2 (xs.length) cp2], .pointer (some ⟨bl, 0, none⟩), undef, undef, undef, undef, undef, undef, undef, undef, undef, undef, undef, undef]) Tryd.func53 rfl rfl ?_
 refine AWp.seq (AWp.rowV (l := _) pok ?_)
 refine sq.op rfl rfl (Does.box (cs := [.slice a (ls.length) cp, .slice a2 (xs.length) cp2]) hf rfl rfl) ?_
 rintro _ h2 n3 ⟨rfl, hb1⟩ s4 hn2 hf
 refine sq.w ?_
 have hbl := s4.sub _ _ hbl
 have hs := hs.trans s4
 have hn := Nat.le_trans hn hn2
 refine sq.c (v := .bool false) rfl rfl rfl rfl ?_
 refine sq.e (AWp.seq (AWp.rowV (l := _) pok ?_))
 refine sq.c (v := .pointer (some ⟨n, 0, none⟩)) rfl rfl (by kernel_rfl) rfl ?_
 refine sq.c (v := .slice a (ls.length) cp) rfl rfl (ld1 (P := Tryd.prog) (t := 40) (p := 0) (v := .slice a (ls.length) cp) (by kernel_rfl) (by kernel_rfl) hb1 rfl) rfl ?_
 refine sq.t (v := .bool (mayB ls)) rfl (CallsF.fn rfl (by kernel_rfl) rfl rfl) (fun hf => l24_spec _ (hl.keep hs) (by omega) hsm.sz (hld.keep hs)) hf rfl ?_
 intro n5 hn2 hf
 have hn := Nat.le_trans hn hn2
 rcases Bool.eq_false_or_eq_true (mayB ls) with c1_2 | c1_2
 ·rw [c1_2]
  refine sq.c (v := .bool false) rfl rfl rfl rfl ?_
  refine sq.c (v := .bool false) rfl rfl rfl rfl ?_
  refine sq.c (v := .pointer (some ⟨n, 1, none⟩)) (wantT (g := 4) (d := 8) rfl rfl rfl) rfl (by kernel_rfl) rfl ?_
  refine sq.c (v := .slice a2 (xs.length) cp2) (wantT (g := 4) (d := 8) rfl rfl rfl) rfl (ld1 (P := Tryd.prog) (t := 41) (p := 1) (v := .slice a2 (xs.length) cp2) (by kernel_rfl) (by kernel_rfl) hb1 rfl) rfl ?_
  refine sq.c (v := .func (.func 51) #[] #[]) (wantT (g := 4) (d := 8) rfl rfl rfl) rfl (ld1 (P := Tryd.prog) (t := 100) (p := 0) (v := .func (.func 51) #[] #[]) (by kernel_rfl) (by kernel_rfl) hbl rfl) rfl ?_
  refine sq.t (v := .bool (xs.any (fun x : Samp => !mayT x.1))) (wantT (g := 4) (d := 8) rfl rfl rfl) (CallsF.fn rfl (by kernel_rfl) rfl rfl) (fun hf => cont1_spec _ (hx.keep hs) (by omega)) hf rfl ?_
  intro n6 hn2 hf
  have hn := Nat.le_trans hn hn2
  refine sq.c (v := .bool (xs.any (fun x : Samp => !mayT x.1))) rfl rfl rfl rfl ?_
  refine sq.c (v := .bool (xs.any (fun x : Samp => !mayT x.1))) rfl rfl rfl rfl ?_
  refine sq.e ?_
  refine AWp.ret ?_
  refine ⟨rfl, [.bool (xs.any (fun x : Samp => !mayT x.1))], rfl, .bool (xs.any (fun x : Samp => !mayT x.1)), rfl, hs, hn, ?_⟩
  show Value.bool (xs.any (fun x : Samp => !mayT x.1)) = .bool (!okSer (ls, xs))
  unfold okSer
  rw [c1_2, any_not]; rfl
 ·rw [c1_2]
  refine sq.c (v := .bool true) rfl rfl rfl rfl ?_
  refine sq.c (v := .bool true) rfl rfl rfl rfl ?_
  refine sq.s (wantF (g := 4) (d := 8) rfl rfl rfl) rfl ?_
  refine sq.s (wantF (g := 4) (d := 8) rfl rfl rfl) rfl ?_
  refine sq.s (wantF (g := 4) (d := 8) rfl rfl rfl) rfl ?_
  refine sq.s (wantF (g := 4) (d := 8) rfl rfl rfl) rfl ?_
  refine sq.c (v := .bool true) rfl rfl rfl rfl ?_
  refine sq.c (v := .bool true) rfl rfl rfl rfl ?_
  refine sq.e ?_
  refine AWp.ret ?_
  refine ⟨rfl, [.bool true], rfl, .bool true, rfl, hs, hn, ?_⟩
  show Value.bool true = .bool (!okSer (ls, xs))
  unfold okSer
  rw [c1_2]; rfl
theorem idx2_spec {h : Heap} {n : Nat} {a : Option Addr} {cp : Nat} (rs : List RSer) (ss : List Ser) (hr : IsRow encSer h (.slice a rs.length cp) rs) (hd : SersIs h rs ss) (hld : Laid0 h) (hsm : Smalls ss) {bl : Nat} {cl : CI} (hbl : h.get bl = some (.cells [.func (.func 51) #[] #[]] true cl)) :
    Tells Tryd.prog 68 [.slice a (rs.length) cp, .func (.func 53) #[] #[.pointer (some ⟨bl, 0, none⟩)]] h n (.int .i64 (idxP (fun s : Ser => !okSer s) ss)) := by
 refine Makes.tells (Makes.free fun hf => ?_)
 have hrl : rs.length = ss.length := hd.1
 have hsl : ss.length ≤ 1200 := hsm.1
 have hs : SubBut h h ([]) := .refl _ _
 have hn : n ≤ n := Nat.le_refl _
 have hf0 := hf
 refine Makes.of_bodyV (args := [.slice a (rs.length) cp, .func (.func 53) #[] #[.pointer (some ⟨bl, 0, none⟩)]]) (vs := [.slice a (rs.length) cp, .func (.func 53) #[] #[.pointer (some ⟨bl, 0, none⟩)], undef, undef, undef, undef, undef, undef, undef, undef, undef, undef, undef, undef, undef, undef, undef, undef, undef]) Tryd.func68 rfl rfl ?_
 refine AWp.seq (AWp.rowV (l := _) pok ?_)
 refine sq.c (v := .int .i64 (0)) rfl rfl rfl rfl ?_
 refine sq.e (AWp.seq (AWp.seq (AWp.rowV (l := _) pok ?_)))
 refine sq.c (v := .slice a (rs.length) cp) rfl rfl rfl rfl ?_
 refine sq.c (v := .int .i64 (((rs.length : Nat) : Int))) rfl rfl (by kernel_rfl) rfl ?_
 refine sq.c (v := .int .i64 (0)) rfl rfl rfl rfl ?_
 refine sq.e (AWp.block ?_)
 refine AWp.loopV (fun d vs h2 n3 => ∃ (i : Int), d = ((ss.length : Nat) - i + 1).toNat ∧ SubBut h h2 ([]) ∧ n ≤ n3 ∧ Free h2 n3 ∧ h2.get bl = some (.cells [.func (.func 51) #[] #[]] true cl) ∧ (0 ≤ i) ∧ (i ≤ (ss.length : Nat)) ∧ (∀ (j : Nat) x, (j : Int) < i → ss[j]? = some x → (!okSer x) = false) ∧ ∃ y1 : Nat → Value, vs = [.slice a (rs.length) cp, .func (.func 53) #[] #[.pointer (some ⟨bl, 0, none⟩)], undef, undef, (y1 4), (y1 5), .slice a (rs.length) cp, .int .i64 (((rs.length : Nat) : Int)), .int .i64 (i), (y1 9), (y1 10), (y1 11), (y1 12), (y1 13), (y1 14), (y1 15), (y1 16), (y1 17), (y1 18)]) (((ss.length : Nat) - (0 : Int) + 1).toNat) ⟨0, rfl, hs, hn, hf, hbl, (by omega), (by omega), (fun j x hj => by omega), getV [undef, undef, undef, undef, .int .i64 (0), undef, undef, undef, undef, undef, undef, undef, undef, undef, undef, undef, undef, undef, undef], rfl⟩ ?_
 rintro d vs h2 n3 ⟨i, rfl, hs, hn, hf, hbl, hi0, hi1, hyes, y1, rfl⟩
 refine AWp.seq (AWp.rowV (l := _) pok ?_)
 refine sq.c (v := .bool (decide (i < (((rs.length : Nat) : Int))))) rfl rfl rfl rfl ?_
 refine sq.e (AWp.seq ?_)
 by_cases c2_0 : i < (((rs.length : Nat) : Int))
 ·rw [decide_eq_true c2_0]
  refine AWp.condT rfl rfl ?_
  refine AWp.skip (AWp.seq (AWp.block (AWp.seq (AWp.rowV (l := _) pok ?_))))
  refine sq.c (v := .int .i64 (i)) rfl rfl rfl rfl ?_
  refine sq.c (v := .int .i64 (i)) rfl rfl rfl rfl ?_
  refine sq.e (AWp.seq (AWp.rowV (l := _) pok ?_))
  refine sq.c (v := .func (.func 53) #[] #[.pointer (some ⟨bl, 0, none⟩)]) rfl rfl rfl rfl ?_
  refine sq.c (v := .slice a (rs.length) cp) rfl rfl rfl rfl ?_
  refine sq.c (v := .int .i64 (i)) rfl rfl rfl rfl ?_
  have i10 : (0 : Int) ≤ (i : Int) := by omega
  obtain ⟨x11, hx_x11⟩ : ∃ x, (rs)[((i : Int)).toNat]? = some x := ⟨_, List.getElem?_eq_getElem (by omega)⟩
  obtain ⟨y_x11, hy_x11, L_x11, M_x11⟩ := hd.at hx_x11
  obtain ⟨v1_x11, v2_x11⟩ := x11
  obtain ⟨a1_x11, c1_x11, rfl⟩ := (show IsRow encLab _ v1_x11 y_x11.1 from L_x11).slice
  obtain ⟨a2_x11, c2_x11, rfl⟩ := (show IsRow encSmp _ v2_x11 y_x11.2 from M_x11).slice
  obtain ⟨b4, o5, cs_b4, ow_b4, ci_b4, ie9, hb6, hc7, hr8⟩ := IsRow.at (P := Tryd.prog) (t := 29) (e := 43) (k := .i64) (by kernel_rfl) (by kernel_rfl) (hr.keep hs) i10 hx_x11
  refine sq.c (v := .pointer (some ⟨b4, o5, none⟩)) rfl rfl ie9 rfl ?_
  refine sq.c (v := .agg #[.slice a1_x11 (y_x11.1.length) c1_x11, .slice a2_x11 (y_x11.2.length) c2_x11]) rfl rfl (ldR (P := Tryd.prog) (t := 43) (k := 2) (xs := [.slice a1_x11 (y_x11.1.length) c1_x11, .slice a2_x11 (y_x11.2.length) c2_x11]) (by kernel_rfl) (by kernel_rfl) hr8) rfl ?_
  refine sq.t (v := .bool (!okSer y_x11)) rfl (CallsF.val rfl rfl (by kernel_rfl) rfl rfl) (fun hf => bad2_spec _ _ (L_x11.keep hs) (M_x11.keep hs) hbl (hld.keep hs) (hsm.2 _ (List.mem_of_getElem? hy_x11))) hf rfl ?_
  intro n12 hn2 hf
  have hn := Nat.le_trans hn hn2
  refine sq.e ?_
  rcases Bool.eq_false_or_eq_true (!okSer y_x11) with c4_5 | c4_5
  ·rw [c4_5]
   refine AWp.condT rfl rfl ?_
   refine AWp.seq (AWp.rowV (l := _) pok ?_)
   refine sq.c (v := .int .i64 (i)) rfl rfl rfl rfl ?_
   refine sq.c (v := .int .i64 (i)) rfl rfl rfl rfl ?_
   refine sq.e ?_
   refine AWp.ret ?_
   refine ⟨rfl, [.int .i64 (i)], rfl, .int .i64 (i), rfl, hs, hn, ?_⟩
   show Value.int .i64 (i) = .int .i64 (idxP (fun s : Ser => !okSer s) ss)
   rw [idxP_at hi0 hy_x11 c4_5 hyes]
  ·rw [c4_5]
   refine AWp.condF rfl rfl ?_
   refine AWp.skip (AWp.rowV (l := _) pok ?_)
   refine sq.c (v := .int .i64 (i + 1)) rfl rfl (okI (wrap_i64 (by omega) (by omega))) rfl ?_
   refine sq.c (v := .int .i64 (i + 1)) rfl rfl rfl rfl ?_
   refine sq.e ?_
   have hy : ∀ (j : Nat) x, (j : Int) < i + 1 → ss[j]? = some x → (!okSer x) = false := by
    intro j x hj hx2
    by_cases e : j = i.toNat
    ·subst e; rw [hy_x11] at hx2; cases hx2; exact c4_5
    ·exact hyes j x (by omega) hx2
   refine ⟨_, _, rfl, by omega, i + 1, rfl, hs, hn, hf, hbl, (by omega), (by omega), (hy), getV [undef, undef, undef, undef, (y1 4), .int .i64 (i), undef, undef, undef, .bool true, .int .i64 (i), .func (.func 53) #[] #[.pointer (some ⟨bl, 0, none⟩)], .slice a (rs.length) cp, .int .i64 (i), .pointer (some ⟨b4, o5, none⟩), .agg #[.slice a1_x11 (y_x11.1.length) c1_x11, .slice a2_x11 (y_x11.2.length) c2_x11], .bool false, (y1 17), .int .i64 (i + 1)], rfl⟩
 ·rw [decide_eq_false c2_0]
  refine AWp.condF rfl rfl ?_
  refine AWp.exit ?_
  refine AWp.seq (AWp.rowV (l := _) pok ?_)
  refine sq.c (v := .int .i64 (-1)) rfl rfl rfl rfl ?_
  refine sq.e ?_
  refine AWp.ret ?_
  refine ⟨rfl, [.int .i64 (-1)], rfl, .int .i64 (-1), rfl, hs, hn, ?_⟩
  show Value.int .i64 (-1) = .int .i64 (idxP (fun s : Ser => !okSer s) ss)
  rw [idxP_none (fun j x hj hx2 => hyes j x (by omega) hx2)]
theorem cont2_spec {h : Heap} {n : Nat} {a : Option Addr} {cp : Nat} (rs : List RSer) (ss : List Ser) (hr : IsRow encSer h (.slice a rs.length cp) rs) (hd : SersIs h rs ss) (hld : Laid0 h) (hsm : Smalls ss) {bl : Nat} {cl : CI} (hbl : h.get bl = some (.cells [.func (.func 51) #[] #[]] true cl)) :
    Tells Tryd.prog 52 [.slice a (rs.length) cp, .func (.func 53) #[] #[.pointer (some ⟨bl, 0, none⟩)]] h n (.bool (!ss.all okSer)) := by
 refine Makes.tells (Makes.free fun hf => ?_)
 have hs : SubBut h h ([]) := .refl _ _
 have hn : n ≤ n := Nat.le_refl _
 have hf0 := hf
 refine Makes.of_bodyV (args := [.slice a (rs.length) cp, .func (.func 53) #[] #[.pointer (some ⟨bl, 0, none⟩)]]) (vs := [.slice a (rs.length) cp, .func (.func 53) #[] #[.pointer (some ⟨bl, 0, none⟩)], undef, undef, undef, undef, undef, undef, undef]) Tryd.func52 rfl rfl ?_
 refine AWp.seq (AWp.rowV (l := _) pok ?_)
 refine sq.c (v := .bool false) rfl rfl rfl rfl ?_
 refine sq.e (AWp.seq (AWp.rowV (l := _) pok ?_))
 refine sq.c (v := .slice a (rs.length) cp) rfl rfl rfl rfl ?_
 refine sq.c (v := .func (.func 53) #[] #[.pointer (some ⟨bl, 0, none⟩)]) rfl rfl rfl rfl ?_
 refine sq.t (v := .int .i64 (idxP (fun s : Ser => !okSer s) ss)) rfl (CallsF.fn rfl (by kernel_rfl) rfl rfl) (fun hf => idx2_spec _ _ hr hd hld hsm hbl) hf rfl ?_
 intro n1 hn2 hf
 have hn := Nat.le_trans hn hn2
 refine sq.c (v := .bool (decide ((0 : Int) ≤ (idxP (fun s : Ser => !okSer s) ss)))) rfl rfl rfl rfl ?_
 refine sq.c (v := .bool (decide ((0 : Int) ≤ (idxP (fun s : Ser => !okSer s) ss)))) rfl rfl rfl rfl ?_
 refine sq.e ?_
 refine AWp.ret ?_
 refine ⟨rfl, [.bool (decide ((0 : Int) ≤ (idxP (fun s : Ser => !okSer s) ss)))], rfl, .bool (decide ((0 : Int) ≤ (idxP (fun s : Ser => !okSer s) ss))), rfl, hs, hn, ?_⟩
 show Value.bool (decide ((0 : Int) ≤ (idxP (fun s : Ser => !okSer s) ss))) = .bool (!ss.all okSer)
 rw [← any_not, ← idxP_any]
end Go.Proofs.YtkpaklofdkjinaaDoor
