/- texts of the claim, part 5: AbsF AbsG Runes Lab1 LabB LabShelf LabTabs RuneLaw LabV LabW LabN LabK LabR LabR2 LabS Lab2 LabMayLaw LabT LabUn LabVar LabKd LabX1. -/
import Derived.Test.YtkpjfibpaojelaaGreatDoorPb4
import Derived.Lib.ValidLaws
import Derived.Lib.TrimUEq
import Derived.Test.YtkpjfibpaojelaaGreatDoorRows
import Derived.Test.YtkpjfibpaojelaaGreatDoorTie
import Derived.Shelf.Unicode.ValidAny
import Derived.Ground.NamesProg
import Derived.Test.YtkpjfibpaojelaaGreatDoorProg
import Derived.Lib.MapLaws
/- Regions whose order is drawn, in which blocks turn that are not read: what is kept, told block by block. -/
namespace Go.Abs
open Go
/-- These blocks stay. -/
def KeepK (K : List Nat) (h h' : Heap) : Prop := ∀ b ∈ K, ∀ o, h.get b = some o → h'.get b = some o
theorem KeepK.refl (K : List Nat) (h : Heap) : KeepK K h h := fun _ _ _ e => e
theorem KeepK.trans {K : List Nat} {h h1 h2 : Heap} (a : KeepK K h h1) (b : KeepK K h1 h2) : KeepK K h h2 := fun c hc o e => b c hc o (a c hc o e)
theorem KeepK.of {K S : List Nat} {h h1 : Heap} (hK : ∀ b ∈ K, b ∉ S) (s : SubBut h h1 S) : KeepK K h h1 := fun c hc o e => s c o (hK c hc) e
theorem keepN {S : List Nat} : ∀ b ∈ ([] : List Nat), b ∉ S := fun _ h => by cases h
theorem keepC {S K : List Nat} {b : Nat} (h : b ∉ S) (k : ∀ c ∈ K, c ∉ S) : ∀ c ∈ b :: K, c ∉ S := fun c hc => (List.mem_cons.1 hc).elim (fun e => e ▸ h) (k c)
/-- The rest of a region in any row; what was read lies in blocks that stay. -/
structure DK (P : Program) (ops : Array Oper) (Q : APost) (K : List Nat) (plan : List Nat) (vs : List Value) (h : Heap) (n : Nat) : Prop where
  run : ∀ inv : Inv, (∀ x ∈ inv, ∀ h', KeepK K h h' → x.2 h') → drawW P (acall P) ops Q plan inv (frameV vs) h n
section
variable {P : Program} {Q : APost} {vs vs' : List Value} {h : Heap} {n : Nat} {ops : Array Oper} {o : Oper} {d : Nat} {K S S' : List Nat} {i : Nat} {plan : List Nat} {R : Value → Heap → Nat → Prop} {v : Value} {f : FuncId} {xs : List Value} {l : List Oper}
theorem AWp.anyK (ok : POk P) {id : Nat} (plan : List Nat) (hsel : Region.noSelect ops = true) (hp : planOk P ops plan (Array.replicate ops.size false) = true) (hlen : plan.length = ops.size) (hpan : PanExt [] Q)
    (q : DK P ops Q [] plan vs h n) : AWp P (.region id ops true) Q (frameV vs) h n :=
  AWp.draw_region ok plan hsel hp hlen (S := []) (avoids_nil ops) hpan (q.run [] (by simp))
theorem dk.e (q : Q .normal (frameV vs) h n) : DK P ops Q K [] vs h n := ⟨fun _ _ => q⟩
theorem dk.c {v : Value} (ho : l[i]? = some o) (hk : kindOf P o = 1) (hw : wantedA l.toArray o (frameV vs) = true) (hok : okOper P.globals.size o = true) (hv : calmE P o (evalV vs) h = some v) (hd : o.dst = some d) [z : SetL vs d v vs']
    (k : DK P l.toArray Q K plan vs' h n) : DK P l.toArray Q K (i :: plan) vs h n := by
  refine ⟨fun inv hinv => ?_⟩
  have hz : vs' = setV vs o.dst v := by rw [hd]; exact z.eq.symm
  rw [hz] at k
  simp only [drawW, at_arr ho, hk, if_neg (show ¬ (1 : Nat) = 0 by decide), hw, if_true, frameV_eval, frameV_put]
  refine ⟨hok, ?_⟩
  rw [hv]
  exact k.run inv hinv
theorem dk.gB {v : Value} (b : Nat) (ho : l[i]? = some o) (hk : (kindOf P o != 0) = true) (hw : wantedA l.toArray o (frameV vs) = true) (hok : okOper P.globals.size o = true) (hv : ∀ h', (∀ o, h.get b = some o → h'.get b = some o) → calmE P o (evalV vs) h' = some v) (hd : o.dst = some d) [z : SetL vs d v vs']
    (k : DK P l.toArray Q (b :: K) plan vs' h n) : DK P l.toArray Q K (i :: plan) vs h n := by
  refine ⟨fun inv hinv => ?_⟩
  have hk' : kindOf P o ≠ 0 := by simpa using hk
  have hz : vs' = setV vs o.dst v := by rw [hd]; exact z.eq.symm
  rw [hz] at k
  simp only [drawW, at_arr ho, if_neg hk', hw, if_true, frameV_eval, frameV_put]
  refine ⟨hok, ?_⟩
  rw [hv h fun _ e => e]
  simp only
  have hinv' : ∀ x ∈ inv, ∀ h', KeepK (b :: K) h h' → x.2 h' := fun x hx h' hs => hinv x hx h' fun c hc => hs c (List.mem_cons_of_mem _ hc)
  split
  · exact k.run inv hinv'
  · refine k.run _ ?_
    intro x hx h' hs
    rcases List.mem_cons.1 hx with rfl | hx
    · exact hv h' (hs b (List.mem_cons_self ..))
    · exact hinv' x hx h' hs
theorem dk.skip' (hd : setV vs o.dst undef = vs') (ho : l[i]? = some o) (hw : wantedA l.toArray o (frameV vs) = false) (k : DK P l.toArray Q K plan vs' h n) : DK P l.toArray Q K (i :: plan) vs h n := by
  refine ⟨fun inv hinv => ?_⟩
  subst hd
  simp only [drawW, at_arr ho]
  split
  · simp only [opW, hw, Bool.false_eq_true, if_false, frameV_put]
    refine ⟨fun x hx => hinv x (List.mem_filter.1 hx).1 h (.refl K h), k.run _ fun x hx h' hs => hinv x (List.mem_filter.1 hx).1 h' hs⟩
  · simp only [hw, Bool.false_eq_true, if_false, frameV_put]
    exact k.run inv hinv
theorem dk.s (ho : l[i]? = some o) (hw : wantedA l.toArray o (frameV vs) = false) (hd : o.dst = some d) [z : SetL vs d undef vs'] (k : DK P l.toArray Q K plan vs' h n) : DK P l.toArray Q K (i :: plan) vs h n :=
  dk.skip' (by rw [hd]; exact z.eq) ho hw k
theorem dk.s0 (ho : l[i]? = some o) (hw : wantedA l.toArray o (frameV vs) = false) (hd : o.dst = none) (k : DK P l.toArray Q K plan vs h n) : DK P l.toArray Q K (i :: plan) vs h n :=
  dk.skip' (by rw [hd]; rfl) ho hw k
theorem dk.op (ho : l[i]? = some o) (hk : kindOf P o = 0) (hw : wantedA l.toArray o (frameV vs) = true) (hok : okOper P.globals.size o = true) (q : Does P o (evalV vs) h n S' R) (hK : ∀ b ∈ K, b ∉ S')
    (k : ∀ v h2 n2, R v h2 n2 → SubBut h h2 S' → n ≤ n2 → Free h2 n2 → DK P l.toArray Q K plan (setV vs o.dst v) h2 n2) : DK P l.toArray Q K (i :: plan) vs h n := by
  obtain ⟨hc, x, v, h', n', hv, hx, hs, hn, hf, hr⟩ := q
  have k := k v h' n' hr hs hn hf
  refine ⟨fun inv hinv => ?_⟩
  simp only [drawW, at_arr ho, hk, if_true, opW, hw, frameV_eval]
  refine ⟨hok, ?_⟩
  rw [hc, hv]
  have hs' := KeepK.of hK hs
  have k' := k.run (inv.filter fun x => !dep l.toArray i x.1) fun x hx h2 hs2 => hinv x (List.mem_filter.1 hx).1 h2 (hs'.trans hs2)
  have hq : ∀ x ∈ inv.filter (fun x => !dep l.toArray i x.1), x.2 h' := fun x hx => hinv x (List.mem_filter.1 hx).1 h' hs'
  rcases hx with rfl | ⟨rfl, rfl⟩
  · simp only [resW, frameV_put]; exact ⟨hq, k'⟩
  · simp only [resW, frameV_put]; exact ⟨hq, k'⟩
theorem dk.k (ho : l[i]? = some o) (hk : kindOf P o = 0) (hw : wantedA l.toArray o (frameV vs) = true) (hc : CallsF P o (evalV vs) f xs) (c : Makes P f xs h n S' R) (hK : ∀ b ∈ K, b ∉ S')
    (k : ∀ v h2 n2, R v h2 n2 → SubBut h h2 S' → n ≤ n2 → Free h2 n2 → DK P l.toArray Q K plan (setV vs o.dst v) h2 n2) : DK P l.toArray Q K (i :: plan) vs h n := by
  obtain ⟨hok, hc1, hc2⟩ := hc
  refine ⟨fun inv hinv => ?_⟩
  simp only [drawW, at_arr ho, hk, if_true, opW, hw, frameV_eval]
  refine ⟨hok, ?_⟩
  rw [hc1, hc2]
  simp only [resW]
  refine ACall.mono c ?_
  rintro r h1 n1 _ hfr ⟨v, rfl, hs, hn, hr⟩
  refine ⟨h1, Heap.sub_refl _, ?_⟩
  have hs' := KeepK.of hK hs
  simp only [frameV_put]
  exact ⟨fun x hx => hinv x (List.mem_filter.1 hx).1 h1 hs', (k v h1 n1 hr hs hn hfr).run _ fun x hx h2 hs2 => hinv x (List.mem_filter.1 hx).1 h2 (hs'.trans hs2)⟩
theorem dk.t {v : Value} (ho : l[i]? = some o) (hk : kindOf P o = 0) (hw : wantedA l.toArray o (frameV vs) = true) (hc : CallsF P o (evalV vs) f xs) (c : Free h n → Tells P f xs h n v) (hf : Free h n) (hd : o.dst = some d) [z : SetL vs d v vs']
    (k : ∀ n2, n ≤ n2 → Free h n2 → DK P l.toArray Q K plan vs' h n2) : DK P l.toArray Q K (i :: plan) vs h n := by
  refine dk.k ho hk hw hc (Tells.makes (S := []) (c hf)) (fun b _ hm => by simp at hm) ?_
  rintro u h2 n2 ⟨rfl, rfl⟩ _ hn hf2
  rw [hd, show setV vs (some d) u = vs' from z.eq]
  exact k n2 hn hf2
theorem dk.w [z : SetL vs d v vs'] (k : DK P ops Q K plan vs' h n) : DK P ops Q K plan (setV vs (some d) v) h n := by
  rw [show setV vs (some d) v = vs' from z.eq]; exact k
theorem dk.w0 (k : DK P ops Q K plan vs h n) : DK P ops Q K plan (setV vs none v) h n := k
end
theorem strOf_row {P : Program} {a b e : TypeId} {h : Heap} {v : Value} {bs : List UInt8} (hc : convE P a b (.slice none 0 0) = some (.string ⟨#[]⟩)) (ha : P.underlying a = some (.slice e)) (hb : P.underlying b = some .string) (he : P.underlying e = some (.int .u8)) (q : IsRow encByte h v bs) :
    (match convE P a b v with | some v => some v | none => strOfE P a b v h) = some (.string ⟨bs.toArray⟩) := by
  have h1 : ∀ x l c, convE P a b (.slice (some x) l c) = none := by
    intro x l c
    unfold convE
    rw [ha, hb]
    rfl
  have h2 := q.str ha hb he
  obtain ⟨x, c, rfl⟩ := q.slice
  cases x with
  | some x => rw [h1]; exact h2
  | none =>
    rcases q with ⟨rfl, e | ⟨b', o, cap, e⟩⟩ | ⟨b', o, cap, cs, own, ci, e, h1, h2, h3, h4⟩
    · cases e; rw [show (convE P a b (.slice none ([] : List UInt8).length 0)) = _ from hc]
    · cases e
    · cases e
/-- The first ones of a row. -/
theorem IsRow.take {α : Type} {E : Enc α} {P : Program} {t e : TypeId} {h : Heap} {a : Option Addr} {cp : Nat} {kd : IntKind} {xs : List α} {k : Nat} (hu : P.underlying t = some (.slice e)) (hi : (P.info? e).map (·.size) = some E.k)
    (q : IsRow E h (.slice a xs.length cp) xs) (hc : xs.length ≤ cp ∧ cp < U) (hk : k ≤ xs.length) :
    sliceE P t (.slice a xs.length cp) none (some (.int kd (k : Nat))) none h = some (.slice a (xs.take k).length cp) ∧ IsRow E h (.slice a (xs.take k).length cp) (xs.take k) := by
  have hl : (xs.take k).length = k := by rw [List.length_take]; omega
  have hinf : ∃ inf, P.info? e = some inf := by
    cases h40 : P.info? e with
    | none => rw [h40] at hi; cases hi
    | some inf => exact ⟨inf, rfl⟩
  obtain ⟨inf, h40⟩ := hinf
  have hb2 : boundE none k 0 = some 0 := rfl
  have hnil : a = none → xs = [] ∧ cp = 0 := by
    intro e
    subst e
    rcases q with ⟨rfl, e | ⟨b', o, cap, e⟩⟩ | ⟨b', o, cap, cs, own, ci, e, _⟩
    · cases e; exact ⟨rfl, rfl⟩
    · cases e
    · cases e
  have hprop : ∀ x, a = some x → x.spot = none := by
    intro x ex
    subst ex
    rcases q with ⟨rfl, e | ⟨b', o, cap, e⟩⟩ | ⟨b', o, cap, cs, own, ci, e, _⟩
    · cases e
    · cases e; rfl
    · cases e; rfl
  refine ⟨?_, ?_⟩
  · rw [hl]
    cases a with
    | none =>
      obtain ⟨rfl, rfl⟩ := hnil rfl
      obtain rfl : k = 0 := by simpa using hk
      unfold sliceE
      rw [hu]
      simp only [List.length_nil, h40, boundsE, boundE]
      rfl
    | some x =>
      obtain ⟨b, o, pth⟩ := x
      obtain rfl : pth = none := hprop _ rfl
      unfold sliceE
      rw [hu]
      simp only [h40]
      have hbl : boundE (some (.int kd (k : Nat))) cp xs.length = some k := by simp only [boundE]; rw [if_pos (by omega)]; simp
      rw [if_neg (by omega), if_neg (by omega), if_pos hc]
      simp only [boundsE, hbl, hb2, Option.getD_none]
      simp
  · rcases q with ⟨rfl, e | ⟨b', o, cap, e⟩⟩ | ⟨b', o, cap, cs, own, ci, e, h1, h2, h3, h4⟩
    · cases e; rw [List.take_nil]; exact .nil
    · cases e; rw [List.take_nil]; exact .empty
    · cases e
      have hm : E.k * k ≤ E.k * xs.length := Nat.mul_le_mul_left _ hk
      refine .inr ⟨b', o, cp, cs, own, ci, rfl, by omega, h2, ?_, ?_⟩
      · rw [hl, ← E.row_take, ← h3, List.take_take, Nat.min_eq_left hm]
      · rw [hl]; omega
end Go.Abs
/- Regions whose order is drawn, in which two acting operations may be ready at once: plans that fork. -/
namespace Go.Abs
open Go
inductive PlanT where
  | e
  | s (i : Nat) (r : PlanT)
  | f (i j : Nat) (p q : PlanT)
def PlanT.len : PlanT → Nat
  | .e => 0
  | .s _ r => r.len + 1
  | .f _ _ p _ => p.len + 1
def drawT (P : Program) (C : CallW) (ops : Array Oper) (Q : APost) : PlanT → Inv → ANextK
  | .e, _, fr, h, n => Q .normal fr h n
  | .s i rest, inv, fr, h, n => match ops[i]? with
    | none => False
    | some o =>
      if kindOf P o = 0 then
        opW P C ops o fr h n (fun fr' h' n' => (∀ x ∈ inv.filter (fun x => !dep ops i x.1), x.2 h') ∧ drawT P C ops Q rest (inv.filter fun x => !dep ops i x.1) fr' h' n') (fun v h' n' => Q (.pan v) fr h' n')
      else if wantedA ops o fr then
        okOper P.globals.size o = true ∧ match calmE P o fr.eval h with
          | some v => drawT P C ops Q rest (if kindOf P o = 1 then inv else (i, fun h' => calmE P o fr.eval h' = some v) :: inv) (fr.put o.dst v) h n
          | none => False
      else drawT P C ops Q rest inv (fr.put o.dst undef) h n
  | .f i j p q, inv, fr, h, n =>
    (match ops[i]? with
      | none => False
      | some o => opW P C ops o fr h n (fun fr' h' n' => (∀ x ∈ inv.filter (fun x => !dep ops i x.1), x.2 h') ∧ drawT P C ops Q p (inv.filter fun x => !dep ops i x.1) fr' h' n') (fun v h' n' => Q (.pan v) fr h' n')) ∧
    (match ops[j]? with
      | none => False
      | some o => opW P C ops o fr h n (fun fr' h' n' => (∀ x ∈ inv.filter (fun x => !dep ops j x.1), x.2 h') ∧ drawT P C ops Q q (inv.filter fun x => !dep ops j x.1) fr' h' n') (fun v h' n' => Q (.pan v) fr h' n'))
section
variable {P : Program} {ops : Array Oper} {Q : APost}
end
/-- The rest of a region in any row; what was read lies in blocks that stay. -/
structure DT (P : Program) (ops : Array Oper) (Q : APost) (K : List Nat) (plan : PlanT) (vs : List Value) (h : Heap) (n : Nat) : Prop where
  run : ∀ inv : Inv, (∀ x ∈ inv, ∀ h', KeepK K h h' → x.2 h') → drawT P (acall P) ops Q plan inv (frameV vs) h n
section
variable {P : Program} {Q : APost} {vs vs' : List Value} {h : Heap} {n : Nat} {ops : Array Oper} {o : Oper} {d : Nat} {K S S' : List Nat} {i : Nat} {plan : PlanT} {R : Value → Heap → Nat → Prop} {v : Value} {f : FuncId} {xs : List Value} {l : List Oper}
theorem dt.e (q : Q .normal (frameV vs) h n) : DT P ops Q K .e vs h n := ⟨fun _ _ => q⟩
theorem dt.c {v : Value} (ho : l[i]? = some o) (hk : kindOf P o = 1) (hw : wantedA l.toArray o (frameV vs) = true) (hok : okOper P.globals.size o = true) (hv : calmE P o (evalV vs) h = some v) (hd : o.dst = some d) [z : SetL vs d v vs']
    (k : DT P l.toArray Q K plan vs' h n) : DT P l.toArray Q K (.s i plan) vs h n := by
  refine ⟨fun inv hinv => ?_⟩
  have hz : vs' = setV vs o.dst v := by rw [hd]; exact z.eq.symm
  rw [hz] at k
  simp only [drawT, at_arr ho, hk, if_neg (show ¬ (1 : Nat) = 0 by decide), hw, if_true, frameV_eval, frameV_put]
  refine ⟨hok, ?_⟩
  rw [hv]
  exact k.run inv hinv
theorem dt.gB {v : Value} (b : Nat) (ho : l[i]? = some o) (hk : (kindOf P o != 0) = true) (hw : wantedA l.toArray o (frameV vs) = true) (hok : okOper P.globals.size o = true) (hv : ∀ h', (∀ o, h.get b = some o → h'.get b = some o) → calmE P o (evalV vs) h' = some v) (hd : o.dst = some d) [z : SetL vs d v vs']
    (k : DT P l.toArray Q (b :: K) plan vs' h n) : DT P l.toArray Q K (.s i plan) vs h n := by
  refine ⟨fun inv hinv => ?_⟩
  have hk' : kindOf P o ≠ 0 := by simpa using hk
  have hz : vs' = setV vs o.dst v := by rw [hd]; exact z.eq.symm
  rw [hz] at k
  simp only [drawT, at_arr ho, if_neg hk', hw, if_true, frameV_eval, frameV_put]
  refine ⟨hok, ?_⟩
  rw [hv h fun _ e => e]
  simp only
  have hinv' : ∀ x ∈ inv, ∀ h', KeepK (b :: K) h h' → x.2 h' := fun x hx h' hs => hinv x hx h' fun c hc => hs c (List.mem_cons_of_mem _ hc)
  split
  · exact k.run inv hinv'
  · refine k.run _ ?_
    intro x hx h' hs
    rcases List.mem_cons.1 hx with rfl | hx
    · exact hv h' (hs b (List.mem_cons_self ..))
    · exact hinv' x hx h' hs
theorem dt.skip' (hd : setV vs o.dst undef = vs') (ho : l[i]? = some o) (hw : wantedA l.toArray o (frameV vs) = false) (k : DT P l.toArray Q K plan vs' h n) : DT P l.toArray Q K (.s i plan) vs h n := by
  refine ⟨fun inv hinv => ?_⟩
  subst hd
  simp only [drawT, at_arr ho]
  split
  · simp only [opW, hw, Bool.false_eq_true, if_false, frameV_put]
    refine ⟨fun x hx => hinv x (List.mem_filter.1 hx).1 h (.refl K h), k.run _ fun x hx h' hs => hinv x (List.mem_filter.1 hx).1 h' hs⟩
  · simp only [hw, Bool.false_eq_true, if_false, frameV_put]
    exact k.run inv hinv
theorem dt.s (ho : l[i]? = some o) (hw : wantedA l.toArray o (frameV vs) = false) (hd : o.dst = some d) [z : SetL vs d undef vs'] (k : DT P l.toArray Q K plan vs' h n) : DT P l.toArray Q K (.s i plan) vs h n :=
  dt.skip' (by rw [hd]; exact z.eq) ho hw k
theorem dt.s0 (ho : l[i]? = some o) (hw : wantedA l.toArray o (frameV vs) = false) (hd : o.dst = none) (k : DT P l.toArray Q K plan vs h n) : DT P l.toArray Q K (.s i plan) vs h n :=
  dt.skip' (by rw [hd]; rfl) ho hw k
theorem dt.op (ho : l[i]? = some o) (hk : kindOf P o = 0) (hw : wantedA l.toArray o (frameV vs) = true) (hok : okOper P.globals.size o = true) (q : Does P o (evalV vs) h n S' R) (hK : ∀ b ∈ K, b ∉ S')
    (k : ∀ v h2 n2, R v h2 n2 → SubBut h h2 S' → n ≤ n2 → Free h2 n2 → DT P l.toArray Q K plan (setV vs o.dst v) h2 n2) : DT P l.toArray Q K (.s i plan) vs h n := by
  obtain ⟨hc, x, v, h', n', hv, hx, hs, hn, hf, hr⟩ := q
  have k := k v h' n' hr hs hn hf
  refine ⟨fun inv hinv => ?_⟩
  simp only [drawT, at_arr ho, hk, if_true, opW, hw, frameV_eval]
  refine ⟨hok, ?_⟩
  rw [hc, hv]
  have hs' := KeepK.of hK hs
  have k' := k.run (inv.filter fun x => !dep l.toArray i x.1) fun x hx h2 hs2 => hinv x (List.mem_filter.1 hx).1 h2 (hs'.trans hs2)
  have hq : ∀ x ∈ inv.filter (fun x => !dep l.toArray i x.1), x.2 h' := fun x hx => hinv x (List.mem_filter.1 hx).1 h' hs'
  rcases hx with rfl | ⟨rfl, rfl⟩
  · simp only [resW, frameV_put]; exact ⟨hq, k'⟩
  · simp only [resW, frameV_put]; exact ⟨hq, k'⟩
theorem dt.k (ho : l[i]? = some o) (hk : kindOf P o = 0) (hw : wantedA l.toArray o (frameV vs) = true) (hc : CallsF P o (evalV vs) f xs) (c : Makes P f xs h n S' R) (hK : ∀ b ∈ K, b ∉ S')
    (k : ∀ v h2 n2, R v h2 n2 → SubBut h h2 S' → n ≤ n2 → Free h2 n2 → DT P l.toArray Q K plan (setV vs o.dst v) h2 n2) : DT P l.toArray Q K (.s i plan) vs h n := by
  obtain ⟨hok, hc1, hc2⟩ := hc
  refine ⟨fun inv hinv => ?_⟩
  simp only [drawT, at_arr ho, hk, if_true, opW, hw, frameV_eval]
  refine ⟨hok, ?_⟩
  rw [hc1, hc2]
  simp only [resW]
  refine ACall.mono c ?_
  rintro r h1 n1 _ hfr ⟨v, rfl, hs, hn, hr⟩
  refine ⟨h1, Heap.sub_refl _, ?_⟩
  have hs' := KeepK.of hK hs
  simp only [frameV_put]
  exact ⟨fun x hx => hinv x (List.mem_filter.1 hx).1 h1 hs', (k v h1 n1 hr hs hn hfr).run _ fun x hx h2 hs2 => hinv x (List.mem_filter.1 hx).1 h2 (hs'.trans hs2)⟩
theorem dt.t {v : Value} (ho : l[i]? = some o) (hk : kindOf P o = 0) (hw : wantedA l.toArray o (frameV vs) = true) (hc : CallsF P o (evalV vs) f xs) (c : Free h n → Tells P f xs h n v) (hf : Free h n) (hd : o.dst = some d) [z : SetL vs d v vs']
    (k : ∀ n2, n ≤ n2 → Free h n2 → DT P l.toArray Q K plan vs' h n2) : DT P l.toArray Q K (.s i plan) vs h n := by
  refine dt.k ho hk hw hc (Tells.makes (S := []) (c hf)) (fun b _ hm => by simp at hm) ?_
  rintro u h2 n2 ⟨rfl, rfl⟩ _ hn hf2
  rw [hd, show setV vs (some d) u = vs' from z.eq]
  exact k n2 hn hf2
theorem dt.w [z : SetL vs d v vs'] (k : DT P ops Q K plan vs' h n) : DT P ops Q K plan (setV vs (some d) v) h n := by
  rw [show setV vs (some d) v = vs' from z.eq]; exact k
theorem dt.w0 (k : DT P ops Q K plan vs h n) : DT P ops Q K plan (setV vs none v) h n := k
end
/-- Two operations that act are ready: each may come first. -/
theorem dt.f {P : Program} {l : List Oper} {Q : APost} {K : List Nat} {i j : Nat} {p q : PlanT} {o o' : Oper} {vs : List Value} {h : Heap} {n : Nat} (ho : l[i]? = some o) (hk : kindOf P o = 0) (ho' : l[j]? = some o') (hk' : kindOf P o' = 0)
    (a : DT P l.toArray Q K (.s i p) vs h n) (b : DT P l.toArray Q K (.s j q) vs h n) : DT P l.toArray Q K (.f i j p q) vs h n := by
  refine ⟨fun inv hinv => ?_⟩
  have ha := a.run inv hinv
  have hb := b.run inv hinv
  simp only [drawT, at_arr ho, hk, if_true] at ha
  simp only [drawT, at_arr ho', hk', if_true] at hb
  simp only [drawT, at_arr ho, at_arr ho']
  exact ⟨ha, hb⟩
end Go.Abs
/- Calls that may throw: they make, or they panic with one value. -/
namespace Go.Abs
open Go
/-- It makes, or it panics with w; then T. -/
def Throws (P : Program) (f : FuncId) (args : List Value) (h : Heap) (n : Nat) (S : List Nat) (R : Value → Heap → Nat → Prop) (w : Value) (T : Prop) : Prop :=
  ACall P f args.toArray h n fun r h' n' => (∃ v, r = .ret v ∧ SubBut h h' S ∧ n ≤ n' ∧ R v h' n') ∨ (r = .pan w ∧ SubBut h h' S ∧ n ≤ n' ∧ T)
section
variable {P : Program} {f : FuncId} {args : List Value} {h : Heap} {n : Nat} {S : List Nat} {R R' : Value → Heap → Nat → Prop} {w : Value} {T T' : Prop}
theorem Throws.mono (c : Throws P f args h n S R w T) (hr : ∀ v h' n', SubBut h h' S → n ≤ n' → Free h' n' → R v h' n' → R' v h' n') (ht : T → T') : Throws P f args h n S R' w T' :=
  ACall.mono c fun _ h' _ _ hf q => ⟨h', Heap.sub_refl _, q.elim (fun ⟨v, e, hs, hn, q⟩ => .inl ⟨v, e, hs, hn, hr v h' _ hs hn hf q⟩) (fun ⟨e, hs, hn, q⟩ => .inr ⟨e, hs, hn, ht q⟩)⟩
theorem Throws.free (q : Free h n → Throws P f args h n S R w T) : Throws P f args h n S R w T := ACall.free q
theorem Throws.of_bodyV {fn : Func} {c : Code} {vs : List Value}
    (hf : P.funcs[f]? = some fn) (hb : fn.body = some c) (hvs : vs = args ++ List.replicate (fn.ntmps - args.length) undef)
    (q : AWp P c (bodyA P fn fun r h' n' => (∃ v, r = .ret v ∧ SubBut h h' S ∧ n ≤ n' ∧ R v h' n') ∨ (r = .pan w ∧ SubBut h h' S ∧ n ≤ n' ∧ T)) (frameV vs) h n) : Throws P f args h n S R w T :=
  ACall.of_bodyV hf hb hvs q
end
section
variable {P : Program} {Q : APost} {vs vs' : List Value} {h : Heap} {n : Nat} {ops : Array Oper} {o : Oper} {rest : List Oper} {S : List Nat} {R : Value → Heap → Nat → Prop} {v w : Value} {T : Prop} {f : FuncId} {xs : List Value}
/-- A call that may throw. -/
theorem sq.x (hw : wantedA ops o (frameV vs) = true) (hc : CallsF P o (evalV vs) f xs) (c : Throws P f xs h n S R w T)
    (kp : ∀ h2 n2, T → SubBut h h2 S → n ≤ n2 → Q (.pan w) (frameV vs) h2 n2)
    (k : ∀ v h2 n2, R v h2 n2 → SubBut h h2 S → n ≤ n2 → Free h2 n2 → SW P ops Q rest (setV vs o.dst v) h2 n2) : SW P ops Q (o :: rest) vs h n := by
  obtain ⟨hok, hc1, hc2⟩ := hc
  refine ⟨?_⟩
  simp only [seqW, opW, hw, if_true, frameV_eval]
  refine ⟨hok, ?_⟩
  rw [hc1, hc2]
  refine ACall.mono c ?_
  rintro r h1 n1 _ hfr (⟨v, rfl, hs, hn, hr⟩ | ⟨rfl, hs, hn, ht⟩)
  · exact ⟨h1, Heap.sub_refl _, by simp only [frameV_put]; exact (k v h1 n1 hr hs hn hfr).run⟩
  · exact ⟨h1, Heap.sub_refl _, kp h1 n1 ht hs hn⟩
/-- A panic. -/
theorem sq.p {t : TypeId} {u : Value} {x : Operand} {dst : Option Tmp} {ty : TypeId} {pos : String} {after : Array Edge} {guard : Option (Nat × Bool)}
    (hw : wantedA ops ⟨dst, .panic x, ty, pos, after, guard⟩ (frameV vs) = true) (hok : okOper P.globals.size ⟨dst, .panic x, ty, pos, after, guard⟩ = true) (hx : evalV vs x = .iface t u) (q : Q (.pan (.iface t u)) (frameV vs) h n) :
    SW P ops Q (⟨dst, .panic x, ty, pos, after, guard⟩ :: rest) vs h n := by
  refine ⟨?_⟩
  simp only [seqW, opW, hw, if_true, frameV_eval]
  refine ⟨hok, ?_⟩
  have hc : calmE P ⟨dst, .panic x, ty, pos, after, guard⟩ (evalV vs) h = none := rfl
  have ha : actE P ⟨dst, .panic x, ty, pos, after, guard⟩ (evalV vs) h n = some (.pan (.iface t u), h, n) := by simp only [actE, hx]
  rw [hc, ha]
  exact q
end
/-- A result that lies in memory. -/
theorem res_cell {P : Program} {vs : List Value} {h : Heap} {a : Tmp} {t : TypeId} {v : Value} (hl : loadE P t (getV vs a) h = some v) : resultsE P (frameV vs) h [.cell a t] = some [v] := by
  have e : resultE P (frameV vs) h (.cell a t) = some v := by
    show loadE P t ((frameV vs).get a) h = some v
    rw [frameV_get]; exact hl
  show (match resultE P (frameV vs) h (.cell a t), resultsE P (frameV vs) h [] with | some x, some xs => some (x :: xs) | _, _ => none) = _
  rw [e]; rfl
/-- A place is the place that it is. -/
theorem ptr_neq_self {P : Program} {t e : TypeId} {k b o : Nat} (hu : P.underlying t = some (.pointer e)) (hi : (P.info? e).map (·.size) = some k) (hk : k ≠ 0) : binE P .neq t false false (.pointer (some ⟨b, o, none⟩)) (.pointer (some ⟨b, o, none⟩)) = some (.bool false) := by
  cases h40 : P.info? e with
  | none => rw [h40] at hi; cases hi
  | some i =>
    rw [h40] at hi
    simp only [Option.map_some, Option.some.injEq] at hi
    have e1 : eqNilE P t (.pointer (some ⟨b, o, none⟩)) (.pointer (some ⟨b, o, none⟩)) = some true := by
      simp only [eqNilE, hu, h40]
      rw [if_neg (by omega), if_pos trivial]
      simp
    simp only [binE, eqE, e1]
    rfl
/-! Operations that act and leave the heap: places of no type, entries of the model's own, a slice's place. -/
section
variable {P : Program} {h : Heap} {n : Nat} {o : Oper}
theorem Does.stay {ρ : Operand → Value} {v : Value} (hf : Free h n) (hc : calmE P o ρ h = none) (hv : actE P o ρ h n = some (.val v, h, n)) : Does P o ρ h n [] fun u h2 _ => u = v ∧ h2 = h :=
  ⟨hc, _, v, _, _, hv, .inl rfl, .refl _ _, Nat.le_refl n, hf, rfl, rfl⟩
theorem convPtr_to {s d t : TypeId} {k b p : Nat} {cs : List Value} {own : Bool} {ci : CI} (hs : P.underlying s = some (.pointer t)) (hd : P.underlying d = some .unsafePointer) (hi : (P.info? t).map (·.size) = some k) (hk : k ≠ 0)
    (hb : h.get b = some (.cells cs own ci)) (hp : p < cs.length) : convPtrE P s d (.pointer (some ⟨b, p, none⟩)) h = some (.pointer (some ⟨b, p, none⟩)) := by
  cases h40 : P.info? t with
  | none => rw [h40] at hi; cases hi
  | some i =>
    rw [h40] at hi
    simp only [Option.map_some, Option.some.injEq] at hi
    simp only [convPtrE, hs, hd, hb, h40, hi]
    rw [if_pos ⟨hk, hp⟩]
theorem convPtr_from {s d t : TypeId} {b p : Nat} {cs : List Value} {own : Bool} {ci : CI} (hs : P.underlying s = some .unsafePointer) (hd : P.underlying d = some (.pointer t)) (hi : (P.info? t).isSome = true)
    (hb : h.get b = some (.cells cs own ci)) (hw : ci.whole = true) (hl : liesAt P P.depth ci.e (cs.length / P.cellsOf ci.e) p t 1 = true) : convPtrE P s d (.pointer (some ⟨b, p, none⟩)) h = some (.pointer (some ⟨b, p, none⟩)) := by
  obtain ⟨i, hi⟩ := Option.isSome_iff_exists.1 hi
  simp only [convPtrE, hs, hd, hb, hi]
  rw [if_pos ⟨hw, hl⟩]
theorem flat_ptr {b p : Nat} : flat (.pointer (some ⟨b, p, none⟩)) = false := by rfl
theorem Does.convPtr {ρ : Operand → Value} {dst : Option Tmp} {s d ty : TypeId} {x : Operand} {pos : String} {after : Array Edge} {guard : Option (Nat × Bool)} {b p : Nat} (hf : Free h n)
    (hs : P.underlying s ≠ some .string ∧ ∀ e, P.underlying s ≠ some (.slice e)) (hx : ρ x = .pointer (some ⟨b, p, none⟩)) (hv : convPtrE P s d (.pointer (some ⟨b, p, none⟩)) h = some (.pointer (some ⟨b, p, none⟩))) :
    Does P ⟨dst, .convert s d x, ty, pos, after, guard⟩ ρ h n [] fun u h2 _ => u = .pointer (some ⟨b, p, none⟩) ∧ h2 = h := by
  have e1 : convE P s d (.pointer (some ⟨b, p, none⟩)) = none := by
    unfold convE
    split
    · simp_all
    · simp_all
    · rw [flat_ptr]; rfl
  have e2 : strOfE P s d (.pointer (some ⟨b, p, none⟩)) h = none := by unfold strOfE; split <;> simp_all
  have e3 : bytesOfE P s d (.pointer (some ⟨b, p, none⟩)) h n = none := by unfold bytesOfE; split <;> simp_all
  refine Does.stay hf ?_ ?_
  · simp only [calmE, hx, e1, e2]
  · simp only [actE, hx, e3, hv]
theorem calleeE_none {f : FuncId} {fn : Func} {xs : List Value} (hf : P.funcs[f]? = some fn) (hb : fn.body = none) : calleeE P (.func (.func f) #[] #[]) xs = none := by
  simp [calleeE, hf, hb]
theorem Does.same {ρ : Operand → Value} {dst : Option Tmp} {f : FuncId} {fn : Func} {a : Operand} {ts : Array TypeId} {ty : TypeId} {pos : String} {after : Array Edge} {guard : Option (Nat × Bool)} {v : Value} (hf : Free h n)
    (hfn : P.funcs[f]? = some fn) (hb : fn.body = none) (hk : xfnOf fn = some .same) (hρ : ρ (.func f) = .func (.func f) #[] #[]) (hx : ρ a = v) :
    Does P ⟨dst, .call { callee := .value (.func f), args := #[a], argTypes := ts }, ty, pos, after, guard⟩ ρ h n [] fun u h2 _ => u = v ∧ h2 = h := by
  refine Does.stay hf rfl ?_
  show (match calleeE P (ρ (.func f)) [ρ a] with | some (k, zs) => some (ARes.ent k zs, h, n) | none => externE P (ρ (.func f)) [ρ a] h n) = _
  rw [hρ, calleeE_none hfn hb]
  simp only [externE, hfn, hk, hx]
  rfl
theorem Does.indexByte {ρ : Operand → Value} {dst : Option Tmp} {f : FuncId} {fn : Func} {a c : Operand} {ts : Array TypeId} {ty : TypeId} {pos : String} {after : Array Edge} {guard : Option (Nat × Bool)} {s : ByteArray} {k : Int} (hf : Free h n)
    (hfn : P.funcs[f]? = some fn) (hb : fn.body = none) (hk : xfnOf fn = some .indexByte) (hρ : ρ (.func f) = .func (.func f) #[] #[]) (hx : ρ a = .string s) (hc : ρ c = .int .u8 k) :
    Does P ⟨dst, .call { callee := .value (.func f), args := #[a, c], argTypes := ts }, ty, pos, after, guard⟩ ρ h n [] fun u h2 _ => u = .int .i64 (Lib.indexByte s.data.toList k.toNat.toUInt8) ∧ h2 = h := by
  refine Does.stay hf rfl ?_
  show (match calleeE P (ρ (.func f)) [ρ a, ρ c] with | some (k, zs) => some (ARes.ent k zs, h, n) | none => externE P (ρ (.func f)) [ρ a, ρ c] h n) = _
  rw [hρ, calleeE_none hfn hb]
  simp only [externE, hfn, hk, hx, hc]
  rfl
/-- A string's bytes in new memory. -/
theorem Does.bytesOf {ρ : Operand → Value} {dst : Option Tmp} {s d e ty : TypeId} {x : Operand} {pos : String} {after : Array Edge} {guard : Option (Nat × Bool)} {b : ByteArray} {h0 : Heap} (hf : Free h n) (hs : P.underlying s = some .string) (hd : P.underlying d = some (.slice e))
    (he : P.underlying e = some (.int .u8)) (hx : ρ x = .string b) (hc : convE P s d (.string b) = none) (hp : 0 < b.data.toList.length) (hl : b.data.toList.length ≤ U) (hz : h0.get n = none) :
    Does P ⟨dst, .convert s d x, ty, pos, after, guard⟩ ρ h n [] fun v h2 _ => v = .slice (some ⟨n, 0, none⟩) b.data.toList.length U ∧ OwnRow encByte e h0 h2 (.slice (some ⟨n, 0, none⟩) b.data.toList.length U) b.data.toList := by
  have e2 : strOfE P s d (.string b) h = none := by unfold strOfE; split <;> simp_all
  have e3 : bytesOfE P s d (.string b) h n = some (.val (.slice (some ⟨n, 0, none⟩) b.data.toList.length U), h.set n (.cells (b.data.toList.map fun c => .int .u8 c.toNat) true ⟨e, 1, false⟩), n + 1) := by
    simp only [bytesOfE, hs, hd, he]
  obtain ⟨g1, x1, v1, h1, n1, g2, g3, g4, g5, g6, g7⟩ := Does.new (P := P) (o := ⟨dst, .convert s d x, ty, pos, after, guard⟩) (ρ := ρ) (v := .slice (some ⟨n, 0, none⟩) b.data.toList.length U) (ob := .cells (b.data.toList.map fun c => .int .u8 c.toNat) true ⟨e, 1, false⟩) hf
    (by simp only [calmE, hx, hc, e2]) (by simp only [actE, hx, e3])
  refine ⟨g1, x1, v1, h1, n1, g2, g3, g4, g5, g6, g7.1, .inr ⟨n, U, ⟨e, 1, false⟩, rfl, ?_, hz, rfl, ⟨hp, ?_⟩, .inl ⟨rfl, rfl⟩⟩⟩
  · rw [byte_row]; exact g7.2
  · exact hl
theorem Does.sdata {ρ : Operand → Value} {dst : Option Tmp} {a : Operand} {ts : Array TypeId} {ty : TypeId} {pos : String} {after : Array Edge} {guard : Option (Nat × Bool)} {x v : Value} (hf : Free h n) (hx : ρ a = x) (hv : dataE [x] h n = some (.val v, h, n)) :
    Does P ⟨dst, .call { callee := .builtin .unsafeSliceData, args := #[a], argTypes := ts }, ty, pos, after, guard⟩ ρ h n [] fun u h2 _ => u = v ∧ h2 = h := by
  refine Does.stay hf ?_ ?_
  · simp only [calmE]; rfl
  · show dataE [ρ a] h n = _
    rw [hx]; exact hv
theorem Does.bstr0 {ρ : Operand → Value} {dst : Option Tmp} {a c : Operand} {pt et : TypeId} {ty : TypeId} {pos : String} {after : Array Edge} {guard : Option (Nat × Bool)} (hf : Free h n) (hx : ρ a = .pointer none) (hc : ρ c = .int .i64 0) :
    Does P ⟨dst, .call { callee := .builtin .unsafeString, args := #[a, c], argTypes := #[pt, et] }, ty, pos, after, guard⟩ ρ h n [] fun u h2 _ => u = .string ⟨#[]⟩ ∧ h2 = h := by
  refine Does.stay hf ?_ ?_
  · simp only [calmE]; rfl
  · show (if ([pt, et] : List TypeId).length = 2 then bytesStrE P [pt, et] [ρ a, ρ c] h n else none) = _
    rw [hx, hc]; rfl
theorem Does.bstr {ρ : Operand → Value} {dst : Option Tmp} {a c : Operand} {pt et e : TypeId} {ty : TypeId} {pos : String} {after : Array Edge} {guard : Option (Nat × Bool)} {b : Nat} {bs : List UInt8} {ci : CI} (hf : Free h n) (hx : ρ a = .pointer (some ⟨b, 0, none⟩)) (hc : ρ c = .int .i64 bs.length)
    (hp : P.underlying pt = some (.pointer e)) (hb : h.get b = some (.cells (encByte.row bs) true ci)) (he : ci.e = e) (h1 : P.cellsOf e = 1) (h0 : 0 < bs.length) (hl : bs.length ≤ 9223372036854775807) :
    Does P ⟨dst, .call { callee := .builtin .unsafeString, args := #[a, c], argTypes := #[pt, et] }, ty, pos, after, guard⟩ ρ h n [b] fun u _ _ => u = .string ⟨bs.toArray⟩ := by
  have hmap : (bs.map fun b => (b.toNat : Int)).map (fun n => UInt8.ofNat n.toNat) = bs := by
    rw [List.map_map]
    have : ((fun n : Int => UInt8.ofNat n.toNat) ∘ fun b : UInt8 => (b.toNat : Int)) = id := by
      funext x
      simp
    rw [this, List.map_id]
  have hlen : (encByte.row bs).length = bs.length := by rw [byte_row, List.length_map]
  have hrow : rowE h b 0 bs.length = some (encByte.row bs) := by
    rw [rowE_of hb (by omega), List.drop_zero, ← hlen, List.take_length]
  refine ⟨by simp only [calmE]; rfl, .val (.string ⟨bs.toArray⟩), _, h.set b (.cells (encByte.row bs) false ci), n, ?_, .inl rfl, .set _ _ _, Nat.le_refl _, hf.setAt hb, rfl⟩
  show (if ([pt, et] : List TypeId).length = 2 then bytesStrE P [pt, et] [ρ a, ρ c] h n else none) = _
  rw [if_pos (show ([pt, et] : List TypeId).length = 2 from rfl), hx, hc]
  simp only [bytesStrE, hp, hb]
  rw [if_pos ⟨he, h1, by omega, by omega⟩, Int.toNat_natCast, hrow]
  simp only [byte_row, bytesE_map, hmap]
end
end Go.Abs
/- Bodies with deferred calls, step by step. -/
namespace Go.Abs
open Go
theorem ACallD.free {P : Program} {f : FuncId} {args : Array Value} {m : MS} {h : Heap} {n : Nat} {Q : DPost} (q : Free h n → ACallD P f args m h n Q) : ACallD P f args m h n Q :=
  fun μ a w u ha hr hm => q (fun _ hb => hr.below hb) μ a w u ha hr hm
theorem ACallD.mono {P : Program} {f : FuncId} {args : Array Value} {m : MS} {h : Heap} {n : Nat} {Q Q' : DPost} (c : ACallD P f args m h n Q) (hq : ∀ r m' h' n', n ≤ n' → Q r m' h' n' → Q' r m' h' n') : ACallD P f args m h n Q' := by
  intro μ a w u ha hr hm
  refine (c μ a w u ha hr hm).mono ?_
  rintro e u' w' ⟨μ', h', n', r, m', x1, x2, x3, x4, x5, q⟩
  exact ⟨μ', h', n', r, m', x1, x2, x3, x4, x5, hq _ _ _ _ x4 q⟩
/-- A frame with deferred calls. -/
def frameD (vs : List Value) (ds : List Deferred) : AAct := { frameV vs with defers := ds }
theorem frameD_nil (vs : List Value) : frameD vs [] = frameV vs := rfl
theorem frameD_eval (vs : List Value) (ds : List Deferred) : (frameD vs ds).eval = evalV vs := by
  have e : (frameD vs ds).eval = (frameV vs).eval := by funext x; cases x <;> rfl
  rw [e, frameV_eval]
theorem frameD_put (vs : List Value) (ds : List Deferred) (d : Option Tmp) (v : Value) : (frameD vs ds).put d v = frameD (setV vs d v) ds := by
  have e := frameV_put vs d v
  cases d with
  | none => rfl
  | some d =>
    unfold frameD
    simp only [AAct.put] at e ⊢
    by_cases hd : d < (frameV vs).size
    · rw [if_pos hd] at e ⊢
      rw [← e]
    · rw [if_neg hd] at e ⊢
      rw [← e]
theorem wantedD {ops : Array Oper} {o : Oper} {vs : List Value} {ds : List Deferred} (hg : o.guard = none) : wantedA ops o (frameD vs ds) = true := wantedA_none hg
section
variable {P : Program} {Q : APost} {vs : List Value} {ds : List Deferred} {h : Heap} {n : Nat} {ops : Array Oper} {o : Oper} {rest : List Oper} {S : List Nat} {R : Value → Heap → Nat → Prop} {v w : Value} {T : Prop} {f : FuncId} {xs : List Value}
theorem sd.e (q : Q .normal (frameD vs ds) h n) : seqW P (acall P) ops Q [] (frameD vs ds) h n := q
theorem sd.c (vs' : List Value) {v : Value} (hg : o.guard = none) (hok : okOper P.globals.size o = true) (hv : calmE P o (evalV vs) h = some v) (hd : setV vs o.dst v = vs') (k : seqW P (acall P) ops Q rest (frameD vs' ds) h n) : seqW P (acall P) ops Q (o :: rest) (frameD vs ds) h n := by
  subst hd
  simp only [seqW, opW, wantedD hg, if_true, frameD_eval, frameD_put]
  exact ⟨hok, by rw [hv]; exact k⟩
theorem sd.op (hg : o.guard = none) (hok : okOper P.globals.size o = true) (d : Does P o (evalV vs) h n S R)
    (k : ∀ v h2 n2, R v h2 n2 → SubBut h h2 S → n ≤ n2 → Free h2 n2 → seqW P (acall P) ops Q rest (frameD (setV vs o.dst v) ds) h2 n2) : seqW P (acall P) ops Q (o :: rest) (frameD vs ds) h n := by
  obtain ⟨hc, x, v, h', n', hv, hx, hs, hn, hf, hr⟩ := d
  simp only [seqW, opW, wantedD hg, if_true, frameD_eval]
  refine ⟨hok, ?_⟩
  rw [hc, hv]
  have := k v h' n' hr hs hn hf
  rcases hx with rfl | ⟨rfl, rfl⟩
  · simp only [resW, frameD_put]; exact this
  · simp only [resW, frameD_put]; exact this
theorem sd.x (hg : o.guard = none) (hc : CallsF P o (evalV vs) f xs) (c : Throws P f xs h n S R w T)
    (kp : ∀ h2 n2, T → SubBut h h2 S → n ≤ n2 → Free h2 n2 → Q (.pan w) (frameD vs ds) h2 n2)
    (k : ∀ v h2 n2, R v h2 n2 → SubBut h h2 S → n ≤ n2 → Free h2 n2 → seqW P (acall P) ops Q rest (frameD (setV vs o.dst v) ds) h2 n2) : seqW P (acall P) ops Q (o :: rest) (frameD vs ds) h n := by
  obtain ⟨hok, hc1, hc2⟩ := hc
  simp only [seqW, opW, wantedD hg, if_true, frameD_eval]
  refine ⟨hok, ?_⟩
  rw [hc1, hc2]
  refine ACall.mono c ?_
  rintro r h1 n1 _ hfr (⟨v, rfl, hs, hn, hr⟩ | ⟨rfl, hs, hn, ht⟩)
  · exact ⟨h1, Heap.sub_refl _, by simp only [frameD_put]; exact k v h1 n1 hr hs hn hfr⟩
  · exact ⟨h1, Heap.sub_refl _, kp h1 n1 ht hs hn hfr⟩
/-- A call is deferred. -/
theorem sd.d {c : Call} {fo : Operand} {ty : TypeId} {pos : String} {after : Array Edge} {dst : Option Tmp} {d : Deferred} (hok : okOper P.globals.size ⟨dst, .defer c, ty, pos, after, none⟩ = true) (hcal : c.callee = .value fo) (hd : deferE (evalV vs fo) (c.args.toList.map (evalV vs)) = some d)
    (k : seqW P (acall P) ops Q rest (frameD (setV vs dst undef) (d :: ds)) h n) : seqW P (acall P) ops Q (⟨dst, .defer c, ty, pos, after, none⟩ :: rest) (frameD vs ds) h n := by
  simp only [seqW, opW, wantedD (o := ⟨dst, .defer c, ty, pos, after, none⟩) rfl, if_true, frameD_eval]
  refine ⟨hok, ?_⟩
  have hc : calmE P ⟨dst, .defer c, ty, pos, after, none⟩ (evalV vs) h = none := rfl
  have ha : actE P ⟨dst, .defer c, ty, pos, after, none⟩ (evalV vs) h n = some (.dfr d, h, n) := by
    simp only [actE, hcal, hd]
  rw [hc, ha]
  simp only [resW]
  have e : (({ frameD vs ds with defers := d :: (frameD vs ds).defers } : AAct).put dst undef) = frameD (setV vs dst undef) (d :: ds) := frameD_put vs (d :: ds) dst undef
  rw [e]
  exact k
end
end Go.Abs
namespace Go.Abs
open Go
/-- What a text's bytes decode to: rune and width, one by one. -/
def decsF : Nat → List UInt8 → List (Nat × Nat)
  | 0, _ => []
  | f + 1, l => if l = [] then [] else Lib.decodeL l :: decsF f (l.drop (Lib.decodeL l).2)
def decs (l : List UInt8) : List (Nat × Nat) := decsF l.length l
theorem decsF_fuel : ∀ (n m : Nat) (l : List UInt8), l.length ≤ n → l.length ≤ m → decsF n l = decsF m l
  | 0, m, l, hn, _ => by
    have : l = [] := List.eq_nil_of_length_eq_zero (by omega)
    subst this
    cases m <;> simp [decsF]
  | n + 1, 0, l, _, hm => by
    have : l = [] := List.eq_nil_of_length_eq_zero (by omega)
    subst this
    simp [decsF]
  | n + 1, m + 1, l, hn, hm => by
    unfold decsF
    by_cases hne : l = []
    · simp [hne]
    · have hw := Lib.decodeL_width l
      have hl : 0 < l.length := List.length_pos_iff.2 hne
      rw [if_neg hne, if_neg hne, decsF_fuel n m _ (by rw [List.length_drop]; omega) (by rw [List.length_drop]; omega)]
theorem decs_nil : decs [] = [] := rfl
theorem decs_step (l : List UInt8) (hne : l ≠ []) : decs l = Lib.decodeL l :: decs (l.drop (Lib.decodeL l).2) := by
  have hl : 0 < l.length := List.length_pos_iff.2 hne
  have hw := Lib.decodeL_width l
  obtain ⟨n, hn⟩ : ∃ n, l.length = n + 1 := ⟨l.length - 1, by omega⟩
  unfold decs
  rw [hn]
  show (if l = [] then [] else _) = _
  rw [if_neg hne, decsF_fuel n _ _ (by rw [List.length_drop]; omega) (Nat.le_refl _)]
theorem validD_decs : ∀ (n : Nat) (l : List UInt8), l.length ≤ n → Lib.validD l = (decs l).all fun d => d != (65533, 1)
  | 0, l, hn => by
    have : l = [] := List.eq_nil_of_length_eq_zero (by omega)
    subst this
    rfl
  | n + 1, l, hn => by
    by_cases hne : l = []
    · subst hne; rfl
    · have hl : 0 < l.length := List.length_pos_iff.2 hne
      have hw := Lib.decodeL_width l
      rw [Lib.validD_step l hne, decs_step l hne, List.all_cons, ← validD_decs n _ (by rw [List.length_drop]; omega)]
      generalize Lib.decodeL l = d
      obtain ⟨a, b⟩ := d
      by_cases h : a = 65533 ∧ b = 1
      · rw [if_pos h]; obtain ⟨rfl, rfl⟩ := h; rfl
      · rw [if_neg h]
        have : ((a, b) != (65533, 1)) = true := by
          simp only [bne_iff_ne, ne_eq, Prod.mk.injEq]; exact h
        rw [this]; rfl
/-- How far a step goes. -/
theorem decodeL_le (l : List UInt8) (hne : l ≠ []) : (Lib.decodeL l).2 ≤ l.length := by
  unfold Lib.decodeL
  have hl : 0 < l.length := List.length_pos_iff.2 hne
  rw [Lib.decode_N]
  simp only [Nat.sub_zero]
  generalize (l.getD 0 0).toNat = b0
  unfold Lib.decodeN
  repeat' split
  all_goals simp_all
  all_goals omega
theorem decode_step (s : ByteArray) (p : Nat) (hp : p < s.data.toList.length) :
    decs (s.data.toList.drop p) = Utf8.decode s p :: decs (s.data.toList.drop (p + (Utf8.decode s p).2)) ∧ p + (Utf8.decode s p).2 ≤ s.data.toList.length ∧ 1 ≤ (Utf8.decode s p).2 := by
  have hne : s.data.toList.drop p ≠ [] := by
    intro h
    have := congrArg List.length h
    rw [List.length_drop] at this
    simp only [List.length_nil] at this
    omega
  have h1 := decs_step _ hne
  have h2 := decodeL_le _ hne
  have h3 := Lib.decodeL_width (s.data.toList.drop p)
  rw [Lib.decodeL_drop, List.drop_drop] at h1
  rw [Lib.decodeL_drop, List.length_drop] at h2
  rw [Lib.decodeL_drop] at h3
  exact ⟨h1, by omega, by omega⟩
/-- A rune that may stand in a value. -/
def okD (d : Nat × Nat) : Bool := d != (65533, 1) && decide (32 ≤ d.1) && d.1 != 127
def mayValueL (l : List UInt8) : Bool := (decs l).all okD && decide (1 ≤ (decs l).length) && decide ((decs l).length ≤ 64)
def mayValueB (s : ByteArray) : Bool := mayValueL s.data.toList
/-- Between the two runs over a value: the runes that are looked at. -/
def okC (d : Nat × Nat) : Bool := decide (32 ≤ d.1) && d.1 != 127
theorem okD_eq (d : Nat × Nat) : okD d = (okC d && d != (65533, 1)) := by
  unfold okD okC
  cases decide (32 ≤ d.1) <;> cases (d.1 != 127) <;> cases (d != (65533, 1)) <;> rfl
theorem all_okD (l : List (Nat × Nat)) : l.all okD = (l.all okC && l.all fun d => d != (65533, 1)) := by
  induction l with
  | nil => rfl
  | cons d l ih => simp only [List.all_cons, ih, okD_eq]; cases okC d <;> cases (d != (65533, 1)) <;> cases l.all okC <;> rfl
theorem mv_long {l : List UInt8} {ds r : List (Nat × Nat)} {d : Nat × Nat} (h : decs l = ds ++ d :: r) (hl : 64 ≤ ds.length) : mayValueL l = false := by
  unfold mayValueL
  rw [show decide ((decs l).length ≤ 64) = false by rw [h]; simp; omega, Bool.and_false]
theorem mv_bad {l : List UInt8} {ds r : List (Nat × Nat)} {d : Nat × Nat} (h : decs l = ds ++ d :: r) (hd : okC d = false) : mayValueL l = false := by
  unfold mayValueL
  rw [all_okD, h, List.all_append, List.all_cons, hd]
  simp
theorem mv_end {l : List UInt8} {ds : List (Nat × Nat)} (h : decs l = ds) (ho : ds.all okC = true) (hl : ds.length ≤ 64) : mayValueL l = (decide (0 < ds.length) && Lib.validD l) := by
  unfold mayValueL
  rw [all_okD, h, ho, validD_decs _ _ (Nat.le_refl _), h, Bool.true_and, decide_eq_true hl, Bool.and_true, Bool.and_comm]
  rfl
end Go.Abs
namespace Go.Proofs.YtkpjfibpaojelaaGreatDoor
open Go Go.Abs
set_option maxRecDepth 100000
def plans : Nat → Nat → Option (List Nat)
  | 7, 14 => some (List.range 15)
  | 8, 28 => some (List.range 41)
  | 12, 5 => some (List.range 19)
  | 15, 7 => some (List.range 11)
  | 16, 9 => some (List.range 12)
  | 24, 4 => some (List.range 25)
  | 25, 6 => some (List.range 34)
  | 27, 6 => some (List.range 24)
  | 28, 5 => some [0, 1, 2, 4, 5, 3, 6, 7]
  | 34, 5 => some [0, 1, 2, 3, 4, 5, 8, 9, 10, 11, 12, 6, 7, 13, 14, 15]
  | 35, 7 => some (List.range 6)
  | 46, 7 => some [0, 1, 2, 3, 4, 6, 7, 5, 8, 9, 10, 11, 12]
  | 46, 9 => some [0, 1, 2, 3, 4, 6, 7, 10, 11, 13, 14, 5, 8, 9, 12, 15, 16, 17, 18, 19, 20]
  | 46, 17 => some (List.range 17)
  | 46, 21 => some (List.range 27)
  | 46, 25 => some (List.range 37)
  | 47, 6 => some (List.range 9)
  | 55, 3 => some (List.range 11)
  | 59, 5 => some (List.range 13)
  | 64, 1 => some [0, 1, 2, 3, 5, 6, 7, 8, 9, 4, 10, 11]
  | 65, 3 => some (List.range 13)
  | 72, 1 => some (List.range 19)
  | 72, 2 => some (List.range 39)
  | 75, 3 => some (List.range 16)
  | 76, 10 => some (List.range 16)
  | 78, 3 => some (List.range 16)
  | 80, 6 => some (List.range 12)
  | 80, 9 => some (List.range 16)
  | 84, 0 => some [0, 1, 2, 3, 4, 5, 6, 7, 9, 10, 11, 12, 13, 8, 14, 15]
  | 96, 7 => some (List.range 15)
  | 96, 8 => some (List.range 15)
  | 96, 9 => some (List.range 15)
  | 96, 10 => some (List.range 15)
  | 96, 17 => some (List.range 15)
  | 96, 18 => some (List.range 15)
  | 96, 23 => some (List.range 15)
  | 100, 3 => some (List.range 12)
  | 118, 4 => some [0, 1, 2, 4, 5, 3, 6, 7]
  | 136, 1 => some [0, 1, 3, 2, 4, 5, 6]
  | 137, 1 => some [0, 1, 3, 2, 4, 5, 6]
  | 140, 6 => some (List.range 7)
  | 140, 7 => some (List.range 9)
  | 140, 14 => some (List.range 11)
  | 140, 31 => some (List.range 11)
  | _, _ => none
def deB32 : List Nat := [0, 1, 28, 2, 29, 14, 24, 3, 30, 22, 20, 15, 25, 17, 4, 8, 31, 27, 13, 23, 21, 19, 16, 7, 26, 12, 18, 6, 11, 5, 10, 9]
def deB64 : List Nat := [0, 1, 56, 2, 57, 49, 28, 3, 61, 58, 42, 50, 38, 29, 17, 4, 62, 47, 59, 36, 45, 43, 51, 22, 53, 39, 33, 30, 24, 18, 12, 5, 63, 55, 48, 27, 60, 41, 37, 16, 46, 35, 44, 21, 52, 32, 23, 11, 54, 26, 40, 15, 34, 20, 31, 10, 25, 14, 19, 9, 13, 8, 7, 6]
def pow10 : List Nat := [1, 10, 100, 1000, 10000, 100000, 1000000, 10000000, 100000000, 1000000000, 10000000000, 100000000000, 1000000000000, 10000000000000, 100000000000000, 1000000000000000, 10000000000000000, 100000000000000000, 1000000000000000000, 10000000000000000000]
def accs : List (List Nat) := [[128, 191], [160, 191], [128, 159], [144, 191], [128, 143], [0, 0], [0, 0], [0, 0], [0, 0], [0, 0], [0, 0], [0, 0], [0, 0], [0, 0], [0, 0], [0, 0]]
def laidL : Laid := [(0, .u8, Go.Pinned.utf8FirstZ), (1, .u8, accs.flatten), (2, .u64, pow10), (4, .u8, deB32), (5, .u8, deB64)]
theorem prog_facts : progB Tryz.prog plans = true := by kernel_rfl
theorem pok : POk Tryz.prog := (progB_ok prog_facts).1
theorem plans_ok : PlansOk Tryz.prog plans := (progB_ok prog_facts).2
theorem laidL_lt : (laidL.all fun x => decide (x.1 < Tryz.prog.globals.size)) = true := by kernel_rfl
theorem laidW_of {W : World} (h : laidMet Tryz.prog Rows.labelsNamesRow.laid W) : LaidW W laidL := by
  have h0 : Lib.VarReads Tryz.prog W "unicode/utf8.first" Rows.laid_unicode_utf8_first := Lib.laidMet.reads h (by unfold Rows.labelsNamesRow; simp)
  have h1 : Lib.VarReads Tryz.prog W "unicode/utf8.acceptRanges" Rows.laid_unicode_utf8_acceptRanges := Lib.laidMet.reads h (by unfold Rows.labelsNamesRow; simp)
  have h2 : Lib.VarReads Tryz.prog W "internal/strconv.uint64pow10" Rows.laid_internal_strconv_uint64pow10 := Lib.laidMet.reads h (by unfold Rows.labelsNamesRow; simp)
  have h4 : Lib.VarReads Tryz.prog W "math/bits.deBruijn32tab" Rows.laid_math_bits_deBruijn32tab := Lib.laidMet.reads h (by unfold Rows.labelsNamesRow; simp)
  have h5 : Lib.VarReads Tryz.prog W "math/bits.deBruijn64tab" Rows.laid_math_bits_deBruijn64tab := Lib.laidMet.reads h (by unfold Rows.labelsNamesRow; simp)
  intro x hx
  simp only [laidL, List.mem_cons, List.not_mem_nil, or_false] at hx
  rcases hx with rfl | rfl | rfl | rfl | rfl
  · exact laid_tab (t := 87) (e := 5) (m := 256) (by kernel_rfl) (by kernel_rfl) (by kernel_rfl) (by kernel_rfl) (by kernel_rfl) (by kernel_rfl) h0
  · refine laid_structs (t := 90) (e := 89) (m := 16) (fs := #[{ name := "lo", type := 5, offset := 0, embedded := false, tag := "", pkgPath := "unicode/utf8", byteOffset := 0 }, { name := "hi", type := 5, offset := 1, embedded := false, tag := "", pkgPath := "unicode/utf8", byteOffset := 1 }])
      (by kernel_rfl) (by kernel_rfl) (by kernel_rfl) (by kernel_rfl) ?_ (by kernel_rfl) (by kernel_rfl) (by kernel_rfl) (by decide) h1
    intro i f hi
    match i, hi with
    | 0, hi => simp at hi; subst hi; exact ⟨by kernel_rfl, rfl, by kernel_rfl⟩
    | 1, hi => simp at hi; subst hi; exact ⟨by kernel_rfl, rfl, by kernel_rfl⟩
    | i + 2, hi => simp at hi
  · exact laid_tab (t := 122) (e := 93) (m := 20) (by kernel_rfl) (by kernel_rfl) (by kernel_rfl) (by kernel_rfl) (by kernel_rfl) (by kernel_rfl) h2
  · exact laid_tab (t := 133) (e := 5) (m := 32) (by kernel_rfl) (by kernel_rfl) (by kernel_rfl) (by kernel_rfl) (by kernel_rfl) (by kernel_rfl) h4
  · exact laid_tab (t := 134) (e := 5) (m := 64) (by kernel_rfl) (by kernel_rfl) (by kernel_rfl) (by kernel_rfl) (by kernel_rfl) (by kernel_rfl) h5
end Go.Proofs.YtkpjfibpaojelaaGreatDoor
namespace Go.Proofs.YtkpjfibpaojelaaGreatDoor
open Go Go.Abs
set_option maxRecDepth 100000
set_option maxHeartbeats 2000000
def Laid0 (h : Heap) : Prop := ∃ c, (laidHeap c laidL).sub h
theorem Laid0.keep {h h' : Heap} (l : Laid0 h) (s : SubBut h h' []) : Laid0 h' := let ⟨c, q⟩ := l; ⟨c, Heap.sub_trans q s.sub⟩
theorem Laid0.sub {h h' : Heap} (l : Laid0 h) (s : h.sub h') : Laid0 h' := let ⟨c, q⟩ := l; ⟨c, Heap.sub_trans q s⟩
abbrev Lab := ByteArray × ByteArray
def encLab : Enc Lab := ⟨2, fun x => [.string x.1, .string x.2], fun _ => rfl, by decide⟩
theorem appLab : AppT Tryz.prog encLab 22 40 32 := ⟨by kernel_rfl, by kernel_rfl, by kernel_rfl, fun _ => rfl⟩
def letterB (c : Int) (first : Bool) : Bool := decide (97 ≤ c ∧ c ≤ 122 ∨ 65 ≤ c ∧ c ≤ 90 ∨ c = 95) || (decide (48 ≤ c ∧ c ≤ 57) && !first)
def mayNameB (s : ByteArray) : Bool := decide (1 ≤ s.data.toList.length ∧ s.data.toList.length ≤ 64) && (List.range s.data.toList.length).all fun i => letterB (bt s (i : Nat)) (decide (i = 0))
theorem letter_yes {c : Int} {b : Bool} (h : 97 ≤ c ∧ c ≤ 122 ∨ 65 ≤ c ∧ c ≤ 90 ∨ c = 95) : letterB c b = true := by unfold letterB; rw [decide_eq_true h]; rfl
theorem letter_digit {c : Int} {b : Bool} (h : 48 ≤ c ∧ c ≤ 57) : letterB c b = !b := by
  unfold letterB; rw [decide_eq_true h, decide_eq_false (show ¬ (97 ≤ c ∧ c ≤ 122 ∨ 65 ≤ c ∧ c ≤ 90 ∨ c = 95) by omega)]; rfl
theorem letter_no {c : Int} {b : Bool} (h : ¬ (97 ≤ c ∧ c ≤ 122 ∨ 65 ≤ c ∧ c ≤ 90 ∨ c = 95)) (h2 : ¬ (48 ≤ c ∧ c ≤ 57)) : letterB c b = false := by
  unfold letterB; rw [decide_eq_false h, decide_eq_false h2]; rfl
theorem all_range {n : Nat} {p : Nat → Bool} (h : ∀ i, i < n → p i = true) : (List.range n).all p = true := by
  rw [List.all_eq_true]
  intro i hi
  exact h i (List.mem_range.1 hi)
theorem all_range_false {n i : Nat} {p : Nat → Bool} (hi : i < n) (h : p i = false) : (List.range n).all p = false := by
  rw [List.all_eq_false]
  exact ⟨i, List.mem_range.2 hi, by simp [h]⟩
theorem bt0_pos {s : ByteArray} (h : ¬ s = ⟨#[]⟩) : 0 < s.data.toList.length := by
  rcases Nat.eq_zero_or_pos s.data.toList.length with e | e
  · exfalso; apply h; apply ByteArray.ext; apply Array.ext'
    exact List.eq_nil_of_length_eq_zero e
  · exact e
def okAt (ls : List Lab) (i : Nat) : Bool :=
  mayNameB (ls.getD i (⟨#[]⟩, ⟨#[]⟩)).1 && mayValueB (ls.getD i (⟨#[]⟩, ⟨#[]⟩)).2 &&
    (decide (i = 0) || !(lessS (ls.getD i (⟨#[]⟩, ⟨#[]⟩)).1 (ls.getD (i - 1) (⟨#[]⟩, ⟨#[]⟩)).1 || eqS (ls.getD i (⟨#[]⟩, ⟨#[]⟩)).1 (ls.getD (i - 1) (⟨#[]⟩, ⟨#[]⟩)).1))
def mayB (ls : List Lab) : Bool := decide (1 ≤ ls.length ∧ ls.length ≤ 16) && (List.range ls.length).all (okAt ls)
theorem getD_of {α : Type} {ls : List α} {i : Nat} {x d : α} (h : ls[i]? = some x) : ls.getD i d = x := by rw [List.getD_eq_getElem?_getD, h]; rfl
theorem okAt_of {ls : List Lab} {i : Nat} {x y : Lab} (hx : ls[i]? = some x) (hy : i ≠ 0 → ls[i - 1]? = some y) : okAt ls i = (mayNameB x.1 && mayValueB x.2 && (decide (i = 0) || !(lessS x.1 y.1 || eqS x.1 y.1))) := by
  unfold okAt
  rw [getD_of hx]
  by_cases h : i = 0
  · rw [decide_eq_true h, Bool.true_or, Bool.true_or]
  · rw [getD_of (hy h)]
theorem may_bad {ls : List Lab} {i : Nat} {x : Lab} (hx : ls[i]? = some x) (hb : mayNameB x.1 = false ∨ mayValueB x.2 = false) : mayB ls = false := by
  have hlt := (List.getElem?_eq_some_iff.1 hx).1
  unfold mayB
  rw [all_range_false hlt, Bool.and_false]
  unfold okAt
  rw [getD_of hx]
  rcases hb with h | h <;> rw [h] <;> simp
theorem may_row {ls : List Lab} {i : Nat} {x y : Lab} (hx : ls[i]? = some x) (h0 : i ≠ 0) (hy : ls[i - 1]? = some y) (hb : (lessS x.1 y.1 || eqS x.1 y.1) = true) : mayB ls = false := by
  have hlt := (List.getElem?_eq_some_iff.1 hx).1
  unfold mayB
  rw [all_range_false hlt, Bool.and_false]
  rw [okAt_of hx (fun _ => hy), hb, decide_eq_false h0]
  simp
theorem may_all {ls : List Lab} (h : ∀ i, i < ls.length → okAt ls i = true) : mayB ls = decide (1 ≤ ls.length ∧ ls.length ≤ 16) := by
  unfold mayB
  rw [all_range h, Bool.and_true]
theorem may_len {ls : List Lab} (h : ¬ (1 ≤ ls.length ∧ ls.length ≤ 16)) : mayB ls = false := by
  unfold mayB
  rw [decide_eq_false h]
  rfl
theorem okAt_yes {ls : List Lab} {i : Nat} {x : Lab} (hx : ls[i]? = some x) (h1 : mayNameB x.1 = true) (h2 : mayValueB x.2 = true) (h3 : i = 0 ∨ ∃ y, ls[i - 1]? = some y ∧ (lessS x.1 y.1 || eqS x.1 y.1) = false) : okAt ls i = true := by
  rcases h3 with h | ⟨y, hy, h⟩
  · rw [okAt_of (y := x) hx (fun q => (q h).elim), h1, h2, decide_eq_true h]; rfl
  · rw [okAt_of hx (fun _ => hy), h1, h2, h]; simp
end Go.Proofs.YtkpjfibpaojelaaGreatDoor
namespace Go.Proofs
open Go.Shelf
def Tryz.laysValid_ren : Go.Shelf.Ren := ⟨fun | 196 => 46 | 259 => 72 | n => n, fun | 9 => 9 | 4 => 4 | 3 => 3 | 5 => 5 | 12 => 12 | 119 => 87 | 0 => 0 | 46 => 91 | 139 => 90 | 138 => 89 | 53 => 93 | n => n, fun | 3 => 0 | 4 => 1 | n => n⟩
theorem Tryz.laysValid : Go.Proofs.Lays.n196 Tryz.prog Tryz.laysValid_ren := {
  mixed := by kernel_rfl
  f196 := Tryz.func46.trans (congrArg some (by kernel_rfl))
  f259 := Tryz.func72.trans (congrArg some (by kernel_rfl))
  t0 := Tryz.underlying0
  a0 := Tryz.isAgg0
  z0 := Tryz.sizeOf0
  v0 := Tryz.zeroValue0
  t3 := Tryz.underlying3
  a3 := Tryz.isAgg3
  z3 := Tryz.sizeOf3
  v3 := Tryz.zeroValue3
  t4 := Tryz.underlying4
  a4 := Tryz.isAgg4
  z4 := Tryz.sizeOf4
  v4 := Tryz.zeroValue4
  t5 := Tryz.underlying5
  a5 := Tryz.isAgg5
  z5 := Tryz.sizeOf5
  v5 := Tryz.zeroValue5
  t9 := Tryz.underlying9
  a9 := Tryz.isAgg9
  z9 := Tryz.sizeOf9
  v9 := Tryz.zeroValue9
  t12 := Tryz.underlying12
  a12 := Tryz.isAgg12
  z12 := Tryz.sizeOf12
  v12 := Tryz.zeroValue12
  t46 := Tryz.underlying91
  a46 := Tryz.isAgg91
  z46 := Tryz.sizeOf91
  v46 := Tryz.zeroValue91
  t53 := Tryz.underlying93
  a53 := Tryz.isAgg93
  z53 := Tryz.sizeOf93
  v53 := Tryz.zeroValue93
  t119 := Tryz.underlying87
  a119 := Tryz.isAgg87
  z119 := Tryz.sizeOf87
  t138 := Tryz.underlying89
  a138 := Tryz.isAgg89
  z138 := Tryz.sizeOf89
  v138 := Tryz.zeroValue89
  t139 := Tryz.underlying90
  a139 := Tryz.isAgg90
  z139 := Tryz.sizeOf90
  v139 := Tryz.zeroValue90
  g3 := by kernel_rfl
  g4 := by kernel_rfl }
def Tryz.laysDecode_ren : Go.Shelf.Ren := ⟨fun | 197 => 101 | 260 => 110 | n => n, fun | 9 => 9 | 21 => 21 | 3 => 3 | 4 => 4 | 5 => 5 | 105 => 116 | 119 => 87 | 0 => 0 | 46 => 91 | 139 => 90 | 138 => 89 | n => n, fun | 3 => 0 | 4 => 1 | n => n⟩
theorem Tryz.laysDecode : Go.Proofs.Lays.n197 Tryz.prog Tryz.laysDecode_ren := {
  mixed := by kernel_rfl
  f197 := Tryz.func101.trans (congrArg some (by kernel_rfl))
  f260 := Tryz.func110.trans (congrArg some (by kernel_rfl))
  t0 := Tryz.underlying0
  a0 := Tryz.isAgg0
  z0 := Tryz.sizeOf0
  v0 := Tryz.zeroValue0
  t3 := Tryz.underlying3
  a3 := Tryz.isAgg3
  z3 := Tryz.sizeOf3
  v3 := Tryz.zeroValue3
  t4 := Tryz.underlying4
  a4 := Tryz.isAgg4
  z4 := Tryz.sizeOf4
  v4 := Tryz.zeroValue4
  t5 := Tryz.underlying5
  a5 := Tryz.isAgg5
  z5 := Tryz.sizeOf5
  v5 := Tryz.zeroValue5
  t9 := Tryz.underlying9
  a9 := Tryz.isAgg9
  z9 := Tryz.sizeOf9
  v9 := Tryz.zeroValue9
  t21 := Tryz.underlying21
  a21 := Tryz.isAgg21
  z21 := Tryz.sizeOf21
  v21 := Tryz.zeroValue21
  t46 := Tryz.underlying91
  a46 := Tryz.isAgg91
  z46 := Tryz.sizeOf91
  v46 := Tryz.zeroValue91
  t105 := Tryz.underlying116
  a105 := Tryz.isAgg116
  z105 := Tryz.sizeOf116
  v105 := Tryz.zeroValue116
  t119 := Tryz.underlying87
  a119 := Tryz.isAgg87
  z119 := Tryz.sizeOf87
  t138 := Tryz.underlying89
  a138 := Tryz.isAgg89
  z138 := Tryz.sizeOf89
  v138 := Tryz.zeroValue89
  t139 := Tryz.underlying90
  a139 := Tryz.isAgg90
  z139 := Tryz.sizeOf90
  v139 := Tryz.zeroValue90
  g3 := by kernel_rfl
  g4 := by kernel_rfl }
end Go.Proofs
namespace Go.Proofs.YtkpjfibpaojelaaGreatDoor
open Go Go.Abs Go.RowKit
set_option maxRecDepth 100000
set_option maxHeartbeats 2000000
theorem laid_get {h : Heap} (hl : Laid0 h) {b : Nat} {k : IntKind} {zs : List Nat} (c : ∀ c, (laidHeap c laidL).get b = some (.cells (rowOf k zs) false (c b))) : ∃ ci, h.get b = some (.cells (rowOf k zs) false ci) := by
  obtain ⟨d, hs⟩ := hl
  exact ⟨_, hs _ _ (c d)⟩
theorem laid_cell {μ : Mu} {h : Heap} {n : Nat} {w : World} (hr : Rel Tryz.prog μ h n w) {b : Nat} (hb : b < Tryz.prog.globals.size) {k : IntKind} {zs : List Nat} {ci : CI} (hg : h.get b = some (.cells (rowOf k zs) false ci)) {i z : Nat} (hz : zs[i]? = some z) :
    w.cell? ⟨b, i, none⟩ = some (.int k z) := by
  obtain ⟨m, x, h1, h2, h3⟩ := hr.obj b _ hg
  obtain ⟨m', e1, e2, e3⟩ := hr.glob b hb
  rw [h1] at e1
  cases e1
  cases x with
  | cells c el fr =>
    obtain ⟨g1, g2, g3, _⟩ := h3
    have hv : (rowOf k zs)[i]? = some (.int k z) := by simp [rowOf, hz]
    obtain ⟨v', q1, q2⟩ := g3 i _ hv
    rw [e3, Nat.zero_add] at q1
    have := q2.flat_eq rfl
    subst this
    rw [e2] at h2
    rw [cell_of_block h2]
    exact q1
  | _ => exact h3.elim
theorem first_get : ∀ c, c < 256 → Go.Pinned.utf8FirstZ[c]? = some (Lib.firstT c) := by
  intro c hc
  have h : ∀ c : Fin 256, Go.Pinned.utf8FirstZ[c.val]? = some (Lib.firstT c.val) := by decide
  exact h ⟨c, hc⟩
theorem acc_get : ∀ i, i < 16 → accs.flatten[2 * i]? = some (Lib.accLo i) ∧ accs.flatten[2 * i + 1]? = some (Lib.accHi i) := by
  intro i hi
  have h : ∀ i : Fin 16, accs.flatten[2 * i.val]? = some (Lib.accLo i.val) ∧ accs.flatten[2 * i.val + 1]? = some (Lib.accHi i.val) := by decide
  exact h ⟨i, hi⟩
theorem tabs_of {μ : Mu} {h : Heap} {n : Nat} {w : World} (hl : Laid0 h) (hr : Rel Tryz.prog μ h n w) : Lib.Utf8Tabs 0 1 w := by
  obtain ⟨c0, h0⟩ := laid_get hl (b := 0) (k := .u8) (zs := Go.Pinned.utf8FirstZ) (fun c => by kernel_rfl)
  obtain ⟨c1, h1⟩ := laid_get hl (b := 1) (k := .u8) (zs := accs.flatten) (fun c => by kernel_rfl)
  have hG : (1 : Nat) < Tryz.prog.globals.size := of_decide_eq_true (by kernel_rfl)
  refine ⟨fun c hc => laid_cell hr (by omega) h0 (first_get c hc), fun i hi => ⟨laid_cell hr hG h1 (acc_get i hi).1, laid_cell hr hG h1 (acc_get i hi).2⟩⟩
theorem f46_spec {h : Heap} {n : Nat} (s : ByteArray) (hl : Laid0 h) (hs : s.data.toList.length < 9223372036854775808) : Tells Tryz.prog 46 [.string s] h n (.bool (Lib.validD s.data.toList)) :=
  Tells.of_calls rfl rfl fun _ w hr => Any.utf8_ValidString Tryz.laysValid s w (by simp at hs; omega) (tabs_of hl hr)
theorem f101_spec {h : Heap} {n : Nat} (s : ByteArray) (hl : Laid0 h) : Tells Tryz.prog 101 [.string s] h n (.tuple #[.int .i32 (Lib.decodeGo s).1, .int .i64 (Lib.decodeGo s).2]) :=
  Tells.of_calls rfl rfl fun _ w hr => Any.utf8_DecodeRuneInString Tryz.laysDecode s w (tabs_of hl hr)
end Go.Proofs.YtkpjfibpaojelaaGreatDoor
namespace Go.Proofs.YtkpjfibpaojelaaGreatDoor
open Go Go.Abs
set_option maxRecDepth 100000
set_option maxHeartbeats 4000000
theorem dec1 {n b0 b1 b2 b3 : Nat} (h : b0 < 128) : Lib.decodeN n b0 b1 b2 b3 = (b0, 1) := by unfold Lib.decodeN; rw [if_pos h]
/-- The bytes of a text, as numbers. -/
def bN (s : ByteArray) (i : Nat) : Nat := (s.data.toList.getD i 0).toNat
theorem bN_bt (s : ByteArray) (i : Nat) : (bN s i : Int) = bt s (i : Nat) := by
  unfold bN bt
  rw [List.getD_eq_getElem?_getD]
  rfl
theorem f22_spec {h : Heap} {n : Nat} (s : ByteArray) (hl : Laid0 h) (hlen : s.data.toList.length < 9223372036854775808) :
    Tells Tryz.prog 22 [.string (s)] h n (.bool (mayValueB s)) := by
  refine Makes.tells (Makes.free fun hf => ?_)
  have hs : SubBut h h [] := .refl _ _
  have hn : n ≤ n := Nat.le_refl _
  have hf0 := hf
  refine Makes.of_bodyV (args := [.string (s)]) (vs := [.string (s), undef, undef, undef, undef, undef, undef, undef, undef, undef, undef, undef, undef, undef, undef, undef, undef, undef, undef, undef, undef, undef, undef, undef, undef, undef, undef, undef, undef]) Tryz.func22 rfl rfl ?_
  refine AWp.seq (AWp.rowV (l := _) pok ?_)
  refine sq.c (v := .bool false) rfl rfl rfl rfl ?_
  refine sq.e (AWp.seq (AWp.rowV (l := _) pok ?_))
  refine sq.c (v := .int .i64 (0)) rfl rfl rfl rfl ?_
  refine sq.e (AWp.seq (AWp.seq (AWp.rowV (l := _) pok ?_)))
  refine sq.c (v := .string (s)) rfl rfl rfl rfl ?_
  have z_n : h.get n = none := hf0 _ hn
  refine sq.op rfl rfl (Does.range (s := s) hf (by kernel_rfl) rfl) ?_
  rintro _ h2 n3 ⟨rfl, hb1⟩ s4 hn2 hf
  refine sq.w ?_
  have hs := hs.trans s4
  have hn := Nat.le_trans hn hn2
  refine sq.e (AWp.block ?_)
  refine AWp.loopV (fun d vs h6 n7 => ∃ (p k : Nat) (ds : List (Nat × Nat)), d = s.data.toList.length - p + 1 ∧ SubBut h h6 [] ∧ n ≤ n7 ∧ Free h6 n7 ∧ h6.get n = some (.siter (s) p) ∧ (k = ds.length) ∧ (ds.length ≤ 64) ∧ (decs s.data.toList = ds ++ decs (s.data.toList.drop p)) ∧ (ds.all okC = true) ∧ (p ≤ s.data.toList.length) ∧ ∃ y5 : Nat → Value, vs = [.string (s), undef, (y5 2), .int .i64 ((k : Int)), undef, (y5 5), .string (s), .pointer (some ⟨n, 0, none⟩), (y5 8), (y5 9), (y5 10), (y5 11), (y5 12), (y5 13), (y5 14), (y5 15), (y5 16), (y5 17), (y5 18), (y5 19), (y5 20), (y5 21), (y5 22), undef, undef, undef, undef, undef, undef]) (s.data.toList.length - 0 + 1) ⟨0, 0, [], rfl, hs, hn, hf, hb1, (rfl), (by simp), (by simp), (rfl), (by omega), getV [undef, undef, .bool false, undef, undef, undef, undef, undef, undef, undef, undef, undef, undef, undef, undef, undef, undef, undef, undef, undef, undef, undef, undef], rfl⟩ ?_
  rintro d vs h6 n7 ⟨p, k, ds, rfl, hs, hn, hf, hb1, hk, hk2, hr, hok, hp, y5, rfl⟩
  refine AWp.seq (AWp.rowV (l := _) pok ?_)
  by_cases c3_0 : p < (s).data.toList.length
  · skip
    refine sq.op rfl rfl (Does.nextYes hf rfl hb1 c3_0) ?_
    rintro _ h10 n11 ⟨rfl, hb8⟩ s12 hn2 hf
    refine sq.w ?_
    have hs := hs.fresh z_n s12
    have hn := Nat.le_trans hn hn2
    refine sq.c (v := .bool true) rfl rfl rfl rfl ?_
    refine sq.e (AWp.seq ?_)
    refine AWp.condT rfl rfl ?_
    refine AWp.skip (AWp.block (AWp.seq (AWp.rowV (l := _) pok ?_)))
    refine sq.c (v := .int .i32 ((Utf8.decode (s) p).1)) rfl rfl rfl rfl ?_
    refine sq.c (v := .int .i32 ((Utf8.decode (s) p).1)) rfl rfl rfl rfl ?_
    refine sq.e (AWp.seq (AWp.rowV (l := _) pok ?_))
    refine sq.c (v := .int .i64 ((k : Int))) rfl rfl rfl rfl ?_
    refine sq.c (v := .int .i64 (((k : Int)) + 1)) rfl rfl (okI (wrap_i64 (by omega) (by omega))) rfl ?_
    refine sq.c (v := .int .i64 (((k : Int)) + 1)) rfl rfl rfl rfl ?_
    refine sq.e (AWp.seq (AWp.rowV (l := _) pok ?_))
    refine sq.c (v := .int .i64 (((k : Int)) + 1)) rfl rfl rfl rfl ?_
    refine sq.c (v := .bool (decide ((64 : Int) < (((k : Int)) + 1)))) rfl rfl rfl rfl ?_
    refine sq.c (v := .bool (decide ((64 : Int) < (((k : Int)) + 1)))) rfl rfl rfl rfl ?_
    by_cases c6_1 : (64 : Int) < (((k : Int)) + 1)
    · rw [decide_eq_true c6_1]
      refine sq.s (wantF (g := 2) (d := 15) rfl rfl rfl) rfl ?_
      refine sq.s (wantF (g := 2) (d := 15) rfl rfl rfl) rfl ?_
      refine sq.c (v := .bool true) rfl rfl rfl rfl ?_
      refine sq.c (v := .bool true) rfl rfl rfl rfl ?_
      refine sq.s (wantF (g := 6) (d := 19) rfl rfl rfl) rfl ?_
      refine sq.s (wantF (g := 6) (d := 19) rfl rfl rfl) rfl ?_
      refine sq.c (v := .bool true) rfl rfl rfl rfl ?_
      refine sq.e ?_
      refine AWp.condT rfl rfl ?_
      refine AWp.seq (AWp.rowV (l := _) pok ?_)
      refine sq.c (v := .bool false) rfl rfl rfl rfl ?_
      refine sq.e ?_
      refine AWp.ret ?_
      refine ⟨rfl, [.bool false], rfl, .bool false, rfl, hs, hn, ?_⟩
      show Value.bool false = .bool (mayValueL s.data.toList)
      rw [mv_long (hr.trans (by rw [(decode_step s p c3_0).1])) (by omega)]
    · rw [decide_eq_false c6_1]
      refine sq.c (v := .int .i32 ((Utf8.decode (s) p).1)) (wantT (g := 2) (d := 15) rfl rfl rfl) rfl rfl rfl ?_
      refine sq.c (v := .bool (decide (((Utf8.decode (s) p).1) < (32 : Int)))) (wantT (g := 2) (d := 15) rfl rfl rfl) rfl rfl rfl ?_
      refine sq.c (v := .bool (decide (((Utf8.decode (s) p).1) < (32 : Int)))) rfl rfl rfl rfl ?_
      refine sq.c (v := .bool (decide (((Utf8.decode (s) p).1) < (32 : Int)))) rfl rfl rfl rfl ?_
      by_cases c6_4 : ((Utf8.decode (s) p).1) < (32 : Int)
      · rw [decide_eq_true c6_4]
        refine sq.s (wantF (g := 6) (d := 19) rfl rfl rfl) rfl ?_
        refine sq.s (wantF (g := 6) (d := 19) rfl rfl rfl) rfl ?_
        refine sq.c (v := .bool true) rfl rfl rfl rfl ?_
        refine sq.e ?_
        refine AWp.condT rfl rfl ?_
        refine AWp.seq (AWp.rowV (l := _) pok ?_)
        refine sq.c (v := .bool false) rfl rfl rfl rfl ?_
        refine sq.e ?_
        refine AWp.ret ?_
        refine ⟨rfl, [.bool false], rfl, .bool false, rfl, hs, hn, ?_⟩
        show Value.bool false = .bool (mayValueL s.data.toList)
        rw [mv_bad (hr.trans (by rw [(decode_step s p c3_0).1])) (by simp [okC]; omega)]
      · rw [decide_eq_false c6_4]
        refine sq.c (v := .int .i32 ((Utf8.decode (s) p).1)) (wantT (g := 6) (d := 19) rfl rfl rfl) rfl rfl rfl ?_
        refine sq.c (v := .bool (decide (((Utf8.decode (s) p).1) = (127 : Int)))) (wantT (g := 6) (d := 19) rfl rfl rfl) rfl rfl rfl ?_
        refine sq.c (v := .bool (decide (((Utf8.decode (s) p).1) = (127 : Int)))) rfl rfl rfl rfl ?_
        refine sq.e ?_
        by_cases c6_8 : ((Utf8.decode (s) p).1) = (127 : Int)
        · rw [decide_eq_true c6_8]
          refine AWp.condT rfl rfl ?_
          refine AWp.seq (AWp.rowV (l := _) pok ?_)
          refine sq.c (v := .bool false) rfl rfl rfl rfl ?_
          refine sq.e ?_
          refine AWp.ret ?_
          refine ⟨rfl, [.bool false], rfl, .bool false, rfl, hs, hn, ?_⟩
          show Value.bool false = .bool (mayValueL s.data.toList)
          rw [mv_bad (hr.trans (by rw [(decode_step s p c3_0).1])) (by simp [okC]; omega)]
        · rw [decide_eq_false c6_8]
          refine AWp.condF rfl rfl ?_
          refine AWp.skip ?_
          obtain ⟨q1, q2, q3⟩ := decode_step s p c3_0
          refine ⟨_, _, rfl, by omega, _, k + 1, ds ++ [Utf8.decode s p], rfl, hs, hn, hf, hb8, (by simp [hk]), (by simp; omega), (by rw [hr, q1]; simp), (by rw [List.all_append, hok]; simp [okC]; omega), (by omega), getV [undef, undef, (y5 2), undef, undef, .int .i32 ((Utf8.decode (s) p).1), undef, undef, .tuple #[.bool true, .int .i64 (p), .int .i32 ((Utf8.decode (s) p).1)], .bool true, .int .i32 ((Utf8.decode (s) p).1), .int .i64 ((k : Int)), .int .i64 (((k : Int)) + 1), .int .i64 (((k : Int)) + 1), .bool false, .bool false, .int .i32 ((Utf8.decode (s) p).1), .bool false, .bool false, .bool false, .int .i32 ((Utf8.decode (s) p).1), .bool false, .bool false], rfl⟩
  · skip
    refine sq.op rfl rfl (Does.nextNo hf rfl hb1 c3_0) ?_
    rintro _ h13 n14 rfl s15 hn2 hf
    refine sq.w ?_
    have hs := hs.trans s15
    have hn := Nat.le_trans hn hn2
    refine sq.c (v := .bool false) rfl rfl rfl rfl ?_
    refine sq.e (AWp.seq ?_)
    refine AWp.condF rfl rfl ?_
    refine AWp.exit ?_
    refine AWp.seq (AWp.rowV (l := _) pok ?_)
    refine sq.c (v := .int .i64 ((k : Int))) rfl rfl rfl rfl ?_
    refine sq.c (v := .bool (decide ((0 : Int) < ((k : Int))))) rfl rfl rfl rfl ?_
    refine sq.c (v := .bool (decide ((0 : Int) < ((k : Int))))) rfl rfl rfl rfl ?_
    by_cases c8_1 : (0 : Int) < ((k : Int))
    · rw [decide_eq_true c8_1]
      refine sq.c (v := .string (s)) (wantT (g := 2) (d := 25) rfl rfl rfl) rfl rfl rfl ?_
      refine sq.t (v := .bool (Lib.validD s.data.toList)) (wantT (g := 2) (d := 25) rfl rfl rfl) (CallsF.fn rfl (by kernel_rfl) rfl rfl) (fun hf => f46_spec _ (hl.keep hs) hlen) hf rfl ?_
      intro n16 hn2 hf
      have hn := Nat.le_trans hn hn2
      refine sq.c (v := .bool (Lib.validD s.data.toList)) rfl rfl rfl rfl ?_
      refine sq.c (v := .bool (Lib.validD s.data.toList)) rfl rfl rfl rfl ?_
      refine sq.e ?_
      refine AWp.ret ?_
      refine ⟨rfl, [.bool (Lib.validD s.data.toList)], rfl, .bool (Lib.validD s.data.toList), rfl, hs, hn, ?_⟩
      show Value.bool (Lib.validD s.data.toList) = .bool (mayValueL s.data.toList)
      have hd : s.data.toList.drop p = [] := List.drop_eq_nil_of_le (by omega)
      rw [hd, decs_nil, List.append_nil] at hr
      rw [mv_end hr hok hk2, decide_eq_true (show 0 < ds.length by omega)]; rfl
    · rw [decide_eq_false c8_1]
      refine sq.s (wantF (g := 2) (d := 25) rfl rfl rfl) rfl ?_
      refine sq.s (wantF (g := 2) (d := 25) rfl rfl rfl) rfl ?_
      refine sq.c (v := .bool false) rfl rfl rfl rfl ?_
      refine sq.c (v := .bool false) rfl rfl rfl rfl ?_
      refine sq.e ?_
      refine AWp.ret ?_
      refine ⟨rfl, [.bool false], rfl, .bool false, rfl, hs, hn, ?_⟩
      show Value.bool false = .bool (mayValueL s.data.toList)
      have hd : s.data.toList.drop p = [] := List.drop_eq_nil_of_le (by omega)
      rw [hd, decs_nil, List.append_nil] at hr
      rw [mv_end hr hok hk2, decide_eq_false (show ¬ 0 < ds.length by omega)]; rfl
theorem f45_spec {h : Heap} {n : Nat} (c : Int) (b : Bool) :
    Tells Tryz.prog 45 [.int .u8 (c), .bool (b)] h n (.bool (letterB c b)) := by
  refine Makes.tells (Makes.free fun hf => ?_)
  have hs : SubBut h h [] := .refl _ _
  have hn : n ≤ n := Nat.le_refl _
  have hf0 := hf
  refine Makes.of_bodyV (args := [.int .u8 (c), .bool (b)]) (vs := [.int .u8 (c), .bool (b), undef, undef, undef, undef, undef, undef, undef, undef, undef, undef, undef, undef, undef, undef, undef, undef, undef, undef, undef, undef, undef, undef, undef, undef, undef, undef, undef, undef]) Tryz.func45 rfl rfl ?_
  refine AWp.seq (AWp.rowV (l := _) pok ?_)
  refine sq.c (v := .bool false) rfl rfl rfl rfl ?_
  refine sq.e (AWp.seq (AWp.block (AWp.seq (AWp.seq (AWp.rowV (l := _) pok ?_)))))
  refine sq.c (v := .int .u8 (c)) rfl rfl rfl rfl ?_
  refine sq.c (v := .bool (decide ((97 : Int) ≤ c))) rfl rfl rfl rfl ?_
  refine sq.c (v := .bool (decide ((97 : Int) ≤ c))) rfl rfl rfl rfl ?_
  by_cases c1_1 : (97 : Int) ≤ c
  · rw [decide_eq_true c1_1]
    refine sq.c (v := .int .u8 (c)) (wantT (g := 2) (d := 8) rfl rfl rfl) rfl rfl rfl ?_
    refine sq.c (v := .bool (decide (c ≤ (122 : Int)))) (wantT (g := 2) (d := 8) rfl rfl rfl) rfl rfl rfl ?_
    refine sq.c (v := .bool (decide (c ≤ (122 : Int)))) rfl rfl rfl rfl ?_
    refine sq.c (v := .bool (decide (c ≤ (122 : Int)))) rfl rfl rfl rfl ?_
    refine sq.e ?_
    by_cases c1_4 : c ≤ (122 : Int)
    · rw [decide_eq_true c1_4]
      refine AWp.condT rfl rfl ?_
      refine AWp.skip ?_
      refine AWp.condT rfl rfl ?_
      refine AWp.seq (AWp.rowV (l := _) pok ?_)
      refine sq.c (v := .bool true) rfl rfl rfl rfl ?_
      refine sq.e ?_
      refine AWp.ret ?_
      refine ⟨rfl, [.bool true], rfl, .bool true, rfl, hs, hn, ?_⟩
      show Value.bool true = .bool (letterB c _)
      rw [letter_yes (by omega)]
    · rw [decide_eq_false c1_4]
      refine AWp.condF rfl rfl ?_
      refine AWp.seq (AWp.rowV (l := _) pok ?_)
      refine sq.c (v := .int .u8 (c)) rfl rfl rfl rfl ?_
      refine sq.c (v := .bool (decide ((65 : Int) ≤ c))) rfl rfl rfl rfl ?_
      refine sq.c (v := .bool (decide ((65 : Int) ≤ c))) rfl rfl rfl rfl ?_
      by_cases c2_1 : (65 : Int) ≤ c
      · rw [decide_eq_true c2_1]
        refine sq.c (v := .int .u8 (c)) (wantT (g := 2) (d := 14) rfl rfl rfl) rfl rfl rfl ?_
        refine sq.c (v := .bool (decide (c ≤ (90 : Int)))) (wantT (g := 2) (d := 14) rfl rfl rfl) rfl rfl rfl ?_
        refine sq.c (v := .bool (decide (c ≤ (90 : Int)))) rfl rfl rfl rfl ?_
        refine sq.c (v := .bool (decide (c ≤ (90 : Int)))) rfl rfl rfl rfl ?_
        refine sq.e ?_
        by_cases c2_4 : c ≤ (90 : Int)
        · rw [decide_eq_true c2_4]
          refine AWp.condT rfl rfl ?_
          refine AWp.skip ?_
          refine AWp.condT rfl rfl ?_
          refine AWp.seq (AWp.rowV (l := _) pok ?_)
          refine sq.c (v := .bool true) rfl rfl rfl rfl ?_
          refine sq.e ?_
          refine AWp.ret ?_
          refine ⟨rfl, [.bool true], rfl, .bool true, rfl, hs, hn, ?_⟩
          show Value.bool true = .bool (letterB c _)
          rw [letter_yes (by omega)]
        · rw [decide_eq_false c2_4]
          refine AWp.condF rfl rfl ?_
          refine AWp.rowV (l := _) pok ?_
          refine sq.c (v := .int .u8 (c)) rfl rfl rfl rfl ?_
          refine sq.c (v := .bool (decide (c = (95 : Int)))) rfl rfl rfl rfl ?_
          refine sq.c (v := .bool (decide (c = (95 : Int)))) rfl rfl rfl rfl ?_
          refine sq.e ?_
          by_cases c3_1 : c = (95 : Int)
          · rw [decide_eq_true c3_1]
            refine AWp.condT rfl rfl ?_
            refine AWp.seq (AWp.rowV (l := _) pok ?_)
            refine sq.c (v := .bool true) rfl rfl rfl rfl ?_
            refine sq.e ?_
            refine AWp.ret ?_
            refine ⟨rfl, [.bool true], rfl, .bool true, rfl, hs, hn, ?_⟩
            show Value.bool true = .bool (letterB c _)
            rw [letter_yes (by omega)]
          · rw [decide_eq_false c3_1]
            refine AWp.condF rfl rfl ?_
            refine AWp.skip (AWp.seq (AWp.rowV (l := _) pok ?_))
            refine sq.c (v := .int .u8 (c)) rfl rfl rfl rfl ?_
            refine sq.c (v := .bool (decide ((48 : Int) ≤ c))) rfl rfl rfl rfl ?_
            refine sq.c (v := .bool (decide ((48 : Int) ≤ c))) rfl rfl rfl rfl ?_
            by_cases c5_1 : (48 : Int) ≤ c
            · rw [decide_eq_true c5_1]
              refine sq.c (v := .int .u8 (c)) (wantT (g := 2) (d := 22) rfl rfl rfl) rfl rfl rfl ?_
              refine sq.c (v := .bool (decide (c ≤ (57 : Int)))) (wantT (g := 2) (d := 22) rfl rfl rfl) rfl rfl rfl ?_
              refine sq.c (v := .bool (decide (c ≤ (57 : Int)))) rfl rfl rfl rfl ?_
              refine sq.c (v := .bool (decide (c ≤ (57 : Int)))) rfl rfl rfl rfl ?_
              by_cases c5_4 : c ≤ (57 : Int)
              · rw [decide_eq_true c5_4]
                refine sq.c (v := .bool (b)) (wantT (g := 6) (d := 26) rfl rfl rfl) rfl rfl rfl ?_
                rcases Bool.eq_false_or_eq_true (b) with cb | cb
                · rw [cb]
                  refine sq.c (v := .bool false) (wantT (g := 6) (d := 26) rfl rfl rfl) rfl rfl rfl ?_
                  refine sq.c (v := .bool false) rfl rfl rfl rfl ?_
                  refine sq.c (v := .bool false) rfl rfl rfl rfl ?_
                  refine sq.e ?_
                  refine AWp.ret ?_
                  refine ⟨rfl, [.bool false], rfl, .bool false, rfl, hs, hn, ?_⟩
                  show Value.bool false = .bool (letterB c _)
                  rw [letter_digit (c := c) (by omega)]; rfl
                · rw [cb]
                  refine sq.c (v := .bool true) rfl rfl rfl rfl ?_
                  refine sq.c (v := .bool true) rfl rfl rfl rfl ?_
                  refine sq.c (v := .bool true) rfl rfl rfl rfl ?_
                  refine sq.e ?_
                  refine AWp.ret ?_
                  refine ⟨rfl, [.bool true], rfl, .bool true, rfl, hs, hn, ?_⟩
                  show Value.bool true = .bool (letterB c _)
                  rw [letter_digit (c := c) (by omega)]; rfl
              · rw [decide_eq_false c5_4]
                refine sq.s (wantF (g := 6) (d := 26) rfl rfl rfl) rfl ?_
                refine sq.s (wantF (g := 6) (d := 26) rfl rfl rfl) rfl ?_
                refine sq.c (v := .bool false) rfl rfl rfl rfl ?_
                refine sq.c (v := .bool false) rfl rfl rfl rfl ?_
                refine sq.e ?_
                refine AWp.ret ?_
                refine ⟨rfl, [.bool false], rfl, .bool false, rfl, hs, hn, ?_⟩
                show Value.bool false = .bool (letterB c _)
                rw [letter_no (by omega) (by omega)]
            · rw [decide_eq_false c5_1]
              refine sq.s (wantF (g := 2) (d := 22) rfl rfl rfl) rfl ?_
              refine sq.s (wantF (g := 2) (d := 22) rfl rfl rfl) rfl ?_
              refine sq.c (v := .bool false) rfl rfl rfl rfl ?_
              refine sq.c (v := .bool false) rfl rfl rfl rfl ?_
              refine sq.s (wantF (g := 6) (d := 26) rfl rfl rfl) rfl ?_
              refine sq.s (wantF (g := 6) (d := 26) rfl rfl rfl) rfl ?_
              refine sq.c (v := .bool false) rfl rfl rfl rfl ?_
              refine sq.c (v := .bool false) rfl rfl rfl rfl ?_
              refine sq.e ?_
              refine AWp.ret ?_
              refine ⟨rfl, [.bool false], rfl, .bool false, rfl, hs, hn, ?_⟩
              show Value.bool false = .bool (letterB c _)
              rw [letter_no (by omega) (by omega)]
      · rw [decide_eq_false c2_1]
        refine sq.s (wantF (g := 2) (d := 14) rfl rfl rfl) rfl ?_
        refine sq.s (wantF (g := 2) (d := 14) rfl rfl rfl) rfl ?_
        refine sq.c (v := .bool false) rfl rfl rfl rfl ?_
        refine sq.c (v := .bool false) rfl rfl rfl rfl ?_
        refine sq.e ?_
        refine AWp.condF rfl rfl ?_
        refine AWp.rowV (l := _) pok ?_
        refine sq.c (v := .int .u8 (c)) rfl rfl rfl rfl ?_
        refine sq.c (v := .bool (decide (c = (95 : Int)))) rfl rfl rfl rfl ?_
        refine sq.c (v := .bool (decide (c = (95 : Int)))) rfl rfl rfl rfl ?_
        refine sq.e ?_
        by_cases c3_1 : c = (95 : Int)
        · rw [decide_eq_true c3_1]
          refine AWp.condT rfl rfl ?_
          refine AWp.seq (AWp.rowV (l := _) pok ?_)
          refine sq.c (v := .bool true) rfl rfl rfl rfl ?_
          refine sq.e ?_
          refine AWp.ret ?_
          refine ⟨rfl, [.bool true], rfl, .bool true, rfl, hs, hn, ?_⟩
          show Value.bool true = .bool (letterB c _)
          rw [letter_yes (by omega)]
        · rw [decide_eq_false c3_1]
          refine AWp.condF rfl rfl ?_
          refine AWp.skip (AWp.seq (AWp.rowV (l := _) pok ?_))
          refine sq.c (v := .int .u8 (c)) rfl rfl rfl rfl ?_
          refine sq.c (v := .bool (decide ((48 : Int) ≤ c))) rfl rfl rfl rfl ?_
          refine sq.c (v := .bool (decide ((48 : Int) ≤ c))) rfl rfl rfl rfl ?_
          by_cases c5_1 : (48 : Int) ≤ c
          · rw [decide_eq_true c5_1]
            refine sq.c (v := .int .u8 (c)) (wantT (g := 2) (d := 22) rfl rfl rfl) rfl rfl rfl ?_
            refine sq.c (v := .bool (decide (c ≤ (57 : Int)))) (wantT (g := 2) (d := 22) rfl rfl rfl) rfl rfl rfl ?_
            refine sq.c (v := .bool (decide (c ≤ (57 : Int)))) rfl rfl rfl rfl ?_
            refine sq.c (v := .bool (decide (c ≤ (57 : Int)))) rfl rfl rfl rfl ?_
            by_cases c5_4 : c ≤ (57 : Int)
            · rw [decide_eq_true c5_4]
              refine sq.c (v := .bool (b)) (wantT (g := 6) (d := 26) rfl rfl rfl) rfl rfl rfl ?_
              rcases Bool.eq_false_or_eq_true (b) with cb | cb
              · rw [cb]
                refine sq.c (v := .bool false) (wantT (g := 6) (d := 26) rfl rfl rfl) rfl rfl rfl ?_
                refine sq.c (v := .bool false) rfl rfl rfl rfl ?_
                refine sq.c (v := .bool false) rfl rfl rfl rfl ?_
                refine sq.e ?_
                refine AWp.ret ?_
                refine ⟨rfl, [.bool false], rfl, .bool false, rfl, hs, hn, ?_⟩
                show Value.bool false = .bool (letterB c _)
                rw [letter_digit (c := c) (by omega)]; rfl
              · rw [cb]
                refine sq.c (v := .bool true) rfl rfl rfl rfl ?_
                refine sq.c (v := .bool true) rfl rfl rfl rfl ?_
                refine sq.c (v := .bool true) rfl rfl rfl rfl ?_
                refine sq.e ?_
                refine AWp.ret ?_
                refine ⟨rfl, [.bool true], rfl, .bool true, rfl, hs, hn, ?_⟩
                show Value.bool true = .bool (letterB c _)
                rw [letter_digit (c := c) (by omega)]; rfl
            · rw [decide_eq_false c5_4]
              refine sq.s (wantF (g := 6) (d := 26) rfl rfl rfl) rfl ?_
              refine sq.s (wantF (g := 6) (d := 26) rfl rfl rfl) rfl ?_
              refine sq.c (v := .bool false) rfl rfl rfl rfl ?_
              refine sq.c (v := .bool false) rfl rfl rfl rfl ?_
              refine sq.e ?_
              refine AWp.ret ?_
              refine ⟨rfl, [.bool false], rfl, .bool false, rfl, hs, hn, ?_⟩
              show Value.bool false = .bool (letterB c _)
              rw [letter_no (by omega) (by omega)]
          · rw [decide_eq_false c5_1]
            refine sq.s (wantF (g := 2) (d := 22) rfl rfl rfl) rfl ?_
            refine sq.s (wantF (g := 2) (d := 22) rfl rfl rfl) rfl ?_
            refine sq.c (v := .bool false) rfl rfl rfl rfl ?_
            refine sq.c (v := .bool false) rfl rfl rfl rfl ?_
            refine sq.s (wantF (g := 6) (d := 26) rfl rfl rfl) rfl ?_
            refine sq.s (wantF (g := 6) (d := 26) rfl rfl rfl) rfl ?_
            refine sq.c (v := .bool false) rfl rfl rfl rfl ?_
            refine sq.c (v := .bool false) rfl rfl rfl rfl ?_
            refine sq.e ?_
            refine AWp.ret ?_
            refine ⟨rfl, [.bool false], rfl, .bool false, rfl, hs, hn, ?_⟩
            show Value.bool false = .bool (letterB c _)
            rw [letter_no (by omega) (by omega)]
  · rw [decide_eq_false c1_1]
    refine sq.s (wantF (g := 2) (d := 8) rfl rfl rfl) rfl ?_
    refine sq.s (wantF (g := 2) (d := 8) rfl rfl rfl) rfl ?_
    refine sq.c (v := .bool false) rfl rfl rfl rfl ?_
    refine sq.c (v := .bool false) rfl rfl rfl rfl ?_
    refine sq.e ?_
    refine AWp.condF rfl rfl ?_
    refine AWp.seq (AWp.rowV (l := _) pok ?_)
    refine sq.c (v := .int .u8 (c)) rfl rfl rfl rfl ?_
    refine sq.c (v := .bool (decide ((65 : Int) ≤ c))) rfl rfl rfl rfl ?_
    refine sq.c (v := .bool (decide ((65 : Int) ≤ c))) rfl rfl rfl rfl ?_
    by_cases c2_1 : (65 : Int) ≤ c
    · rw [decide_eq_true c2_1]
      refine sq.c (v := .int .u8 (c)) (wantT (g := 2) (d := 14) rfl rfl rfl) rfl rfl rfl ?_
      refine sq.c (v := .bool (decide (c ≤ (90 : Int)))) (wantT (g := 2) (d := 14) rfl rfl rfl) rfl rfl rfl ?_
      refine sq.c (v := .bool (decide (c ≤ (90 : Int)))) rfl rfl rfl rfl ?_
      refine sq.c (v := .bool (decide (c ≤ (90 : Int)))) rfl rfl rfl rfl ?_
      refine sq.e ?_
      by_cases c2_4 : c ≤ (90 : Int)
      · rw [decide_eq_true c2_4]
        refine AWp.condT rfl rfl ?_
        refine AWp.skip ?_
        refine AWp.condT rfl rfl ?_
        refine AWp.seq (AWp.rowV (l := _) pok ?_)
        refine sq.c (v := .bool true) rfl rfl rfl rfl ?_
        refine sq.e ?_
        refine AWp.ret ?_
        refine ⟨rfl, [.bool true], rfl, .bool true, rfl, hs, hn, ?_⟩
        show Value.bool true = .bool (letterB c _)
        rw [letter_yes (by omega)]
      · rw [decide_eq_false c2_4]
        refine AWp.condF rfl rfl ?_
        refine AWp.rowV (l := _) pok ?_
        refine sq.c (v := .int .u8 (c)) rfl rfl rfl rfl ?_
        refine sq.c (v := .bool (decide (c = (95 : Int)))) rfl rfl rfl rfl ?_
        refine sq.c (v := .bool (decide (c = (95 : Int)))) rfl rfl rfl rfl ?_
        refine sq.e ?_
        by_cases c3_1 : c = (95 : Int)
        · rw [decide_eq_true c3_1]
          refine AWp.condT rfl rfl ?_
          refine AWp.seq (AWp.rowV (l := _) pok ?_)
          refine sq.c (v := .bool true) rfl rfl rfl rfl ?_
          refine sq.e ?_
          refine AWp.ret ?_
          refine ⟨rfl, [.bool true], rfl, .bool true, rfl, hs, hn, ?_⟩
          show Value.bool true = .bool (letterB c _)
          rw [letter_yes (by omega)]
        · rw [decide_eq_false c3_1]
          refine AWp.condF rfl rfl ?_
          refine AWp.skip (AWp.seq (AWp.rowV (l := _) pok ?_))
          refine sq.c (v := .int .u8 (c)) rfl rfl rfl rfl ?_
          refine sq.c (v := .bool (decide ((48 : Int) ≤ c))) rfl rfl rfl rfl ?_
          refine sq.c (v := .bool (decide ((48 : Int) ≤ c))) rfl rfl rfl rfl ?_
          by_cases c5_1 : (48 : Int) ≤ c
          · rw [decide_eq_true c5_1]
            refine sq.c (v := .int .u8 (c)) (wantT (g := 2) (d := 22) rfl rfl rfl) rfl rfl rfl ?_
            refine sq.c (v := .bool (decide (c ≤ (57 : Int)))) (wantT (g := 2) (d := 22) rfl rfl rfl) rfl rfl rfl ?_
            refine sq.c (v := .bool (decide (c ≤ (57 : Int)))) rfl rfl rfl rfl ?_
            refine sq.c (v := .bool (decide (c ≤ (57 : Int)))) rfl rfl rfl rfl ?_
            by_cases c5_4 : c ≤ (57 : Int)
            · rw [decide_eq_true c5_4]
              refine sq.c (v := .bool (b)) (wantT (g := 6) (d := 26) rfl rfl rfl) rfl rfl rfl ?_
              rcases Bool.eq_false_or_eq_true (b) with cb | cb
              · rw [cb]
                refine sq.c (v := .bool false) (wantT (g := 6) (d := 26) rfl rfl rfl) rfl rfl rfl ?_
                refine sq.c (v := .bool false) rfl rfl rfl rfl ?_
                refine sq.c (v := .bool false) rfl rfl rfl rfl ?_
                refine sq.e ?_
                refine AWp.ret ?_
                refine ⟨rfl, [.bool false], rfl, .bool false, rfl, hs, hn, ?_⟩
                show Value.bool false = .bool (letterB c _)
                rw [letter_digit (c := c) (by omega)]; rfl
              · rw [cb]
                refine sq.c (v := .bool true) rfl rfl rfl rfl ?_
                refine sq.c (v := .bool true) rfl rfl rfl rfl ?_
                refine sq.c (v := .bool true) rfl rfl rfl rfl ?_
                refine sq.e ?_
                refine AWp.ret ?_
                refine ⟨rfl, [.bool true], rfl, .bool true, rfl, hs, hn, ?_⟩
                show Value.bool true = .bool (letterB c _)
                rw [letter_digit (c := c) (by omega)]; rfl
            · rw [decide_eq_false c5_4]
              refine sq.s (wantF (g := 6) (d := 26) rfl rfl rfl) rfl ?_
              refine sq.s (wantF (g := 6) (d := 26) rfl rfl rfl) rfl ?_
              refine sq.c (v := .bool false) rfl rfl rfl rfl ?_
              refine sq.c (v := .bool false) rfl rfl rfl rfl ?_
              refine sq.e ?_
              refine AWp.ret ?_
              refine ⟨rfl, [.bool false], rfl, .bool false, rfl, hs, hn, ?_⟩
              show Value.bool false = .bool (letterB c _)
              rw [letter_no (by omega) (by omega)]
          · rw [decide_eq_false c5_1]
            refine sq.s (wantF (g := 2) (d := 22) rfl rfl rfl) rfl ?_
            refine sq.s (wantF (g := 2) (d := 22) rfl rfl rfl) rfl ?_
            refine sq.c (v := .bool false) rfl rfl rfl rfl ?_
            refine sq.c (v := .bool false) rfl rfl rfl rfl ?_
            refine sq.s (wantF (g := 6) (d := 26) rfl rfl rfl) rfl ?_
            refine sq.s (wantF (g := 6) (d := 26) rfl rfl rfl) rfl ?_
            refine sq.c (v := .bool false) rfl rfl rfl rfl ?_
            refine sq.c (v := .bool false) rfl rfl rfl rfl ?_
            refine sq.e ?_
            refine AWp.ret ?_
            refine ⟨rfl, [.bool false], rfl, .bool false, rfl, hs, hn, ?_⟩
            show Value.bool false = .bool (letterB c _)
            rw [letter_no (by omega) (by omega)]
    · rw [decide_eq_false c2_1]
      refine sq.s (wantF (g := 2) (d := 14) rfl rfl rfl) rfl ?_
      refine sq.s (wantF (g := 2) (d := 14) rfl rfl rfl) rfl ?_
      refine sq.c (v := .bool false) rfl rfl rfl rfl ?_
      refine sq.c (v := .bool false) rfl rfl rfl rfl ?_
      refine sq.e ?_
      refine AWp.condF rfl rfl ?_
      refine AWp.rowV (l := _) pok ?_
      refine sq.c (v := .int .u8 (c)) rfl rfl rfl rfl ?_
      refine sq.c (v := .bool (decide (c = (95 : Int)))) rfl rfl rfl rfl ?_
      refine sq.c (v := .bool (decide (c = (95 : Int)))) rfl rfl rfl rfl ?_
      refine sq.e ?_
      by_cases c3_1 : c = (95 : Int)
      · rw [decide_eq_true c3_1]
        refine AWp.condT rfl rfl ?_
        refine AWp.seq (AWp.rowV (l := _) pok ?_)
        refine sq.c (v := .bool true) rfl rfl rfl rfl ?_
        refine sq.e ?_
        refine AWp.ret ?_
        refine ⟨rfl, [.bool true], rfl, .bool true, rfl, hs, hn, ?_⟩
        show Value.bool true = .bool (letterB c _)
        rw [letter_yes (by omega)]
      · rw [decide_eq_false c3_1]
        refine AWp.condF rfl rfl ?_
        refine AWp.skip (AWp.seq (AWp.rowV (l := _) pok ?_))
        refine sq.c (v := .int .u8 (c)) rfl rfl rfl rfl ?_
        refine sq.c (v := .bool (decide ((48 : Int) ≤ c))) rfl rfl rfl rfl ?_
        refine sq.c (v := .bool (decide ((48 : Int) ≤ c))) rfl rfl rfl rfl ?_
        by_cases c5_1 : (48 : Int) ≤ c
        · rw [decide_eq_true c5_1]
          refine sq.c (v := .int .u8 (c)) (wantT (g := 2) (d := 22) rfl rfl rfl) rfl rfl rfl ?_
          refine sq.c (v := .bool (decide (c ≤ (57 : Int)))) (wantT (g := 2) (d := 22) rfl rfl rfl) rfl rfl rfl ?_
          refine sq.c (v := .bool (decide (c ≤ (57 : Int)))) rfl rfl rfl rfl ?_
          refine sq.c (v := .bool (decide (c ≤ (57 : Int)))) rfl rfl rfl rfl ?_
          by_cases c5_4 : c ≤ (57 : Int)
          · rw [decide_eq_true c5_4]
            refine sq.c (v := .bool (b)) (wantT (g := 6) (d := 26) rfl rfl rfl) rfl rfl rfl ?_
            rcases Bool.eq_false_or_eq_true (b) with cb | cb
            · rw [cb]
              refine sq.c (v := .bool false) (wantT (g := 6) (d := 26) rfl rfl rfl) rfl rfl rfl ?_
              refine sq.c (v := .bool false) rfl rfl rfl rfl ?_
              refine sq.c (v := .bool false) rfl rfl rfl rfl ?_
              refine sq.e ?_
              refine AWp.ret ?_
              refine ⟨rfl, [.bool false], rfl, .bool false, rfl, hs, hn, ?_⟩
              show Value.bool false = .bool (letterB c _)
              rw [letter_digit (c := c) (by omega)]; rfl
            · rw [cb]
              refine sq.c (v := .bool true) rfl rfl rfl rfl ?_
              refine sq.c (v := .bool true) rfl rfl rfl rfl ?_
              refine sq.c (v := .bool true) rfl rfl rfl rfl ?_
              refine sq.e ?_
              refine AWp.ret ?_
              refine ⟨rfl, [.bool true], rfl, .bool true, rfl, hs, hn, ?_⟩
              show Value.bool true = .bool (letterB c _)
              rw [letter_digit (c := c) (by omega)]; rfl
          · rw [decide_eq_false c5_4]
            refine sq.s (wantF (g := 6) (d := 26) rfl rfl rfl) rfl ?_
            refine sq.s (wantF (g := 6) (d := 26) rfl rfl rfl) rfl ?_
            refine sq.c (v := .bool false) rfl rfl rfl rfl ?_
            refine sq.c (v := .bool false) rfl rfl rfl rfl ?_
            refine sq.e ?_
            refine AWp.ret ?_
            refine ⟨rfl, [.bool false], rfl, .bool false, rfl, hs, hn, ?_⟩
            show Value.bool false = .bool (letterB c _)
            rw [letter_no (by omega) (by omega)]
        · rw [decide_eq_false c5_1]
          refine sq.s (wantF (g := 2) (d := 22) rfl rfl rfl) rfl ?_
          refine sq.s (wantF (g := 2) (d := 22) rfl rfl rfl) rfl ?_
          refine sq.c (v := .bool false) rfl rfl rfl rfl ?_
          refine sq.c (v := .bool false) rfl rfl rfl rfl ?_
          refine sq.s (wantF (g := 6) (d := 26) rfl rfl rfl) rfl ?_
          refine sq.s (wantF (g := 6) (d := 26) rfl rfl rfl) rfl ?_
          refine sq.c (v := .bool false) rfl rfl rfl rfl ?_
          refine sq.c (v := .bool false) rfl rfl rfl rfl ?_
          refine sq.e ?_
          refine AWp.ret ?_
          refine ⟨rfl, [.bool false], rfl, .bool false, rfl, hs, hn, ?_⟩
          show Value.bool false = .bool (letterB c _)
          rw [letter_no (by omega) (by omega)]
theorem f20_spec {h : Heap} {n : Nat} (s : ByteArray) (hlen : s.data.toList.length < 9223372036854775808) :
    Tells Tryz.prog 20 [.string (s)] h n (.bool (mayNameB s)) := by
  refine Makes.tells (Makes.free fun hf => ?_)
  have hs : SubBut h h [] := .refl _ _
  have hn : n ≤ n := Nat.le_refl _
  have hf0 := hf
  refine Makes.of_bodyV (args := [.string (s)]) (vs := [.string (s), undef, undef, undef, undef, undef, undef, undef, undef, undef, undef, undef, undef, undef, undef, undef, undef, undef, undef, undef, undef, undef, undef, undef]) Tryz.func20 rfl rfl ?_
  refine AWp.seq (AWp.rowV (l := _) pok ?_)
  refine sq.c (v := .bool false) rfl rfl rfl rfl ?_
  refine sq.e (AWp.seq (AWp.seq (AWp.rowV (l := _) pok ?_)))
  refine sq.c (v := .string (s)) rfl rfl rfl rfl ?_
  refine sq.c (v := .int .i64 ((s).data.toList.length)) rfl rfl (by kernel_rfl) rfl ?_
  refine sq.c (v := .int .i64 (0)) rfl rfl rfl rfl ?_
  refine sq.e (AWp.block ?_)
  refine AWp.loopV (fun d vs h' n2 => ∃ (i : Int), d = ((s.data.toList.length : Nat) - i + 1).toNat ∧ h = h' ∧ n ≤ n2 ∧ Free h n2 ∧ (0 ≤ i) ∧ (i ≤ (s.data.toList.length : Nat)) ∧ (∀ j : Nat, (j : Int) < i → letterB (bt s (j : Nat)) (decide (j = 0)) = true) ∧ ∃ y1 : Nat → Value, vs = [.string (s), undef, (y1 2), (y1 3), .string (s), .int .i64 ((s).data.toList.length), .int .i64 (i), (y1 7), (y1 8), (y1 9), (y1 10), (y1 11), (y1 12), (y1 13), (y1 14), (y1 15), (y1 16), undef, undef, undef, undef, undef, undef, undef]) (((s.data.toList.length : Nat) - (0 : Int) + 1).toNat) ⟨0, rfl, rfl, hn, hf, (by omega), (by omega), (fun j hj => by omega), getV [undef, undef, .bool false, undef, undef, undef, undef, undef, undef, undef, undef, undef, undef, undef, undef, undef, undef], rfl⟩ ?_
  rintro d vs h' n2 ⟨i, rfl, rfl, hn, hf, hi0, hi1, hyes, y1, rfl⟩
  refine AWp.seq (AWp.rowV (l := _) pok ?_)
  refine sq.c (v := .bool (decide (i < (((s).data.toList.length : Nat) : Int)))) rfl rfl rfl rfl ?_
  refine sq.e (AWp.seq ?_)
  by_cases c2_0 : i < (((s).data.toList.length : Nat) : Int)
  · rw [decide_eq_true c2_0]
    refine AWp.condT rfl rfl ?_
    refine AWp.skip (AWp.seq (AWp.block (AWp.seq (AWp.rowV (l := _) pok ?_))))
    refine sq.c (v := .int .i64 (i)) rfl rfl rfl rfl ?_
    refine sq.c (v := .int .i64 (i)) rfl rfl rfl rfl ?_
    refine sq.e (AWp.seq (AWp.rowV (l := _) pok ?_))
    refine sq.c (v := .string (s)) rfl rfl rfl rfl ?_
    refine sq.c (v := .int .i64 (i)) rfl rfl rfl rfl ?_
    refine sq.c (v := .int .u8 (bt (s) (i))) rfl rfl (index_str (P := Tryz.prog) (t := 9) (s := s) (i := i) (k := .i64) (by kernel_rfl) (by omega) (by omega)) rfl ?_
    refine sq.c (v := .int .i64 (i)) rfl rfl rfl rfl ?_
    refine sq.c (v := .bool (decide (i = (0 : Int)))) rfl rfl rfl rfl ?_
    refine sq.t (v := .bool (letterB (bt (s) (i)) (decide (i = (0 : Int))))) rfl (CallsF.fn rfl (by kernel_rfl) rfl rfl) (fun hf => f45_spec _ _) hf rfl ?_
    intro n3 hn2 hf
    have hn := Nat.le_trans hn hn2
    rcases Bool.eq_false_or_eq_true (letterB (bt (s) (i)) (decide (i = (0 : Int)))) with c4_5 | c4_5
    · rw [c4_5]
      refine sq.c (v := .bool false) rfl rfl rfl rfl ?_
      refine sq.e ?_
      refine AWp.condF rfl rfl ?_
      refine AWp.skip (AWp.rowV (l := _) pok ?_)
      refine sq.c (v := .int .i64 (i + 1)) rfl rfl (okI (wrap_i64 (by omega) (by omega))) rfl ?_
      refine sq.c (v := .int .i64 (i + 1)) rfl rfl rfl rfl ?_
      refine sq.e ?_
      have hy : ∀ j : Nat, (j : Int) < i + 1 → letterB (bt s (j : Nat)) (decide (j = 0)) = true := by
        intro j hj
        rcases Int.lt_or_eq_of_le (show (j : Int) ≤ i by omega) with q | q
        · exact hyes j q
        · subst q
          rw [show decide (j = 0) = decide ((j : Int) = 0) from decide_eq_decide.2 (by omega)]
          exact c4_5
      refine ⟨_, _, rfl, by omega, i + 1, rfl, rfl, hn, hf, (by omega), (by omega), (hy), getV [undef, undef, (y1 2), .int .i64 (i), undef, undef, undef, .bool true, .int .i64 (i), .string (s), .int .i64 (i), .int .u8 (bt (s) (i)), .int .i64 (i), .bool (decide (i = (0 : Int))), .bool true, .bool false, .int .i64 (i + 1)], rfl⟩
    · rw [c4_5]
      refine sq.c (v := .bool true) rfl rfl rfl rfl ?_
      refine sq.e ?_
      refine AWp.condT rfl rfl ?_
      refine AWp.seq (AWp.rowV (l := _) pok ?_)
      refine sq.c (v := .bool false) rfl rfl rfl rfl ?_
      refine sq.e ?_
      refine AWp.ret ?_
      refine ⟨rfl, [.bool false], rfl, .bool false, rfl, hs, hn, ?_⟩
      show Value.bool false = .bool (mayNameB s)
      unfold mayNameB
      rw [all_range_false (i := i.toNat) (by omega) (by
        show letterB (bt s ((i.toNat : Nat) : Int)) (decide (i.toNat = 0)) = false
        rw [show ((i.toNat : Nat) : Int) = i by omega, show decide (i.toNat = 0) = decide (i = 0) from decide_eq_decide.2 (by omega)]; exact c4_5), Bool.and_false]
  · rw [decide_eq_false c2_0]
    refine AWp.condF rfl rfl ?_
    refine AWp.exit ?_
    refine AWp.seq (AWp.rowV (l := _) pok ?_)
    refine sq.c (v := .string (s)) rfl rfl rfl rfl ?_
    refine sq.c (v := .bool (!decide (s = (⟨#[]⟩ : ByteArray)))) rfl rfl (neD _ _) rfl ?_
    refine sq.c (v := .bool (!decide (s = (⟨#[]⟩ : ByteArray)))) rfl rfl rfl rfl ?_
    by_cases c7_1 : s = (⟨#[]⟩ : ByteArray)
    · rw [decide_eq_true c7_1]
      refine sq.s (wantF (g := 2) (d := 19) rfl rfl rfl) rfl ?_
      refine sq.s (wantF (g := 2) (d := 19) rfl rfl rfl) rfl ?_
      refine sq.s (wantF (g := 2) (d := 19) rfl rfl rfl) rfl ?_
      refine sq.c (v := .bool false) rfl rfl rfl rfl ?_
      refine sq.c (v := .bool false) rfl rfl rfl rfl ?_
      refine sq.e ?_
      refine AWp.ret ?_
      refine ⟨rfl, [.bool false], rfl, .bool false, rfl, hs, hn, ?_⟩
      show Value.bool false = .bool (mayNameB s)
      subst c7_1; rfl
    · rw [decide_eq_false c7_1]
      refine sq.c (v := .string (s)) (wantT (g := 2) (d := 19) rfl rfl rfl) rfl rfl rfl ?_
      refine sq.c (v := .int .i64 ((s).data.toList.length)) (wantT (g := 2) (d := 19) rfl rfl rfl) rfl (by kernel_rfl) rfl ?_
      refine sq.c (v := .bool (decide ((((s).data.toList.length : Nat) : Int) ≤ (64 : Int)))) (wantT (g := 2) (d := 19) rfl rfl rfl) rfl rfl rfl ?_
      refine sq.c (v := .bool (decide ((((s).data.toList.length : Nat) : Int) ≤ (64 : Int)))) rfl rfl rfl rfl ?_
      refine sq.c (v := .bool (decide ((((s).data.toList.length : Nat) : Int) ≤ (64 : Int)))) rfl rfl rfl rfl ?_
      refine sq.e ?_
      refine AWp.ret ?_
      refine ⟨rfl, [.bool (decide ((((s).data.toList.length : Nat) : Int) ≤ (64 : Int)))], rfl, .bool (decide ((((s).data.toList.length : Nat) : Int) ≤ (64 : Int))), rfl, hs, hn, ?_⟩
      show Value.bool (decide ((((s).data.toList.length : Nat) : Int) ≤ (64 : Int))) = .bool (mayNameB s)
      unfold mayNameB
      have hp := bt0_pos c7_1
      rw [all_range (fun j hj => hyes j (by omega)), Bool.and_true]
      exact congrArg Value.bool (decide_eq_decide.2 (by omega))
theorem same_all {ls ms : List Lab} (h : ls.length = ms.length) (hy : ∀ j : Nat, j < ls.length → ls[j]? = ms[j]?) : ls = ms := by
  apply List.ext_getElem?
  intro j
  by_cases hj : j < ls.length
  · exact hy j hj
  · rw [List.getElem?_eq_none (by omega), List.getElem?_eq_none (by omega)]
theorem same_not {ls ms : List Lab} {i : Nat} {x y : Lab} (hx : ls[i]? = some x) (hy : ms[i]? = some y) (h : ¬ x = y) : ¬ ls = ms := by
  intro e
  rw [e, hy] at hx
  exact h (Option.some.inj hx).symm
theorem labNe (x y : Lab) : binE Tryz.prog .neq 40 false false (.agg #[.string x.1, .string x.2]) (.agg #[.string y.1, .string y.2]) = some (.bool (!decide (x = y))) := by
  rw [binE_neq (b := eqS x.1 y.1 && (eqS x.2 y.2 && true)) Tryz.underlying40 (by kernel_rfl) (by kernel_rfl) rfl rfl (by kernel_rfl)]
  have e : (eqS x.1 y.1 && (eqS x.2 y.2 && true)) = decide (x = y) := by
    rw [Bool.eq_iff_iff]
    simp only [Bool.and_true, Bool.and_eq_true, eqS_of, decide_eq_true_eq]
    exact ⟨fun ⟨a, b⟩ => Prod.ext a b, fun e => by rw [e]; exact ⟨rfl, rfl⟩⟩
  rw [e]
theorem f24_spec {h : Heap} {n : Nat} {a : Option Addr} {cp : Nat} (ls : List Lab) (hl : IsRow encLab h (.slice a ls.length cp) ls) (hlen : ls.length < 9223372036854775808) (hsz : ∀ x ∈ ls, x.1.data.toList.length < 9223372036854775808 ∧ x.2.data.toList.length < 9223372036854775808) (hld : Laid0 h) :
    Tells Tryz.prog 24 [.slice a (ls.length) cp] h n (.bool (mayB ls)) := by
  refine Makes.tells (Makes.free fun hf => ?_)
  have hs : SubBut h h [] := .refl _ _
  have hn : n ≤ n := Nat.le_refl _
  have hf0 := hf
  refine Makes.of_bodyV (args := [.slice a (ls.length) cp]) (vs := [.slice a (ls.length) cp, undef, undef, undef, undef, undef, undef, undef, undef, undef, undef, undef, undef, undef, undef, undef, undef, undef, undef, undef, undef, undef, undef, undef, undef, undef, undef, undef, undef, undef, undef, undef, undef, undef, undef, undef, undef, undef, undef, undef, undef, undef, undef, undef, undef, undef]) Tryz.func24 rfl rfl ?_
  refine AWp.seq (AWp.rowV (l := _) pok ?_)
  refine sq.c (v := .bool false) rfl rfl rfl rfl ?_
  refine sq.e (AWp.seq (AWp.seq (AWp.rowV (l := _) pok ?_)))
  refine sq.c (v := .slice a (ls.length) cp) rfl rfl rfl rfl ?_
  refine sq.c (v := .int .i64 (ls.length)) rfl rfl (by kernel_rfl) rfl ?_
  refine sq.c (v := .int .i64 (0)) rfl rfl rfl rfl ?_
  refine sq.e (AWp.block ?_)
  refine AWp.loopV (fun d vs h2 n3 => ∃ (i : Int), d = ((ls.length : Nat) - i + 1).toNat ∧ SubBut h h2 [] ∧ n ≤ n3 ∧ Free h2 n3 ∧ (0 ≤ i) ∧ (i ≤ (ls.length : Nat)) ∧ (∀ j : Nat, (j : Int) < i → okAt ls j = true) ∧ ∃ y1 : Nat → Value, vs = [.slice a (ls.length) cp, undef, (y1 2), (y1 3), (y1 4), .slice a (ls.length) cp, .int .i64 (ls.length), .int .i64 (i), (y1 8), (y1 9), (y1 10), (y1 11), (y1 12), (y1 13), (y1 14), (y1 15), (y1 16), (y1 17), (y1 18), (y1 19), (y1 20), (y1 21), (y1 22), (y1 23), (y1 24), (y1 25), (y1 26), (y1 27), (y1 28), (y1 29), (y1 30), (y1 31), (y1 32), (y1 33), (y1 34), (y1 35), (y1 36), (y1 37), undef, undef, undef, undef, undef, undef, undef, undef]) (((ls.length : Nat) - (0 : Int) + 1).toNat) ⟨0, rfl, hs, hn, hf, (by omega), (by omega), (fun j hj => by omega), getV [undef, undef, .bool false, undef, undef, undef, undef, undef, undef, undef, undef, undef, undef, undef, undef, undef, undef, undef, undef, undef, undef, undef, undef, undef, undef, undef, undef, undef, undef, undef, undef, undef, undef, undef, undef, undef, undef, undef], rfl⟩ ?_
  rintro d vs h2 n3 ⟨i, rfl, hs, hn, hf, hi0, hi1, hyes0, y1, rfl⟩
  refine AWp.seq (AWp.rowV (l := _) pok ?_)
  refine sq.c (v := .bool (decide (i < ((ls.length : Nat) : Int)))) rfl rfl rfl rfl ?_
  refine sq.e (AWp.seq ?_)
  by_cases c2_0 : i < ((ls.length : Nat) : Int)
  · rw [decide_eq_true c2_0]
    refine AWp.condT rfl rfl ?_
    refine AWp.skip (AWp.seq (AWp.block (AWp.seq (AWp.rowV (l := _) pok ?_))))
    refine sq.c (v := .int .i64 (i)) rfl rfl rfl rfl ?_
    have i10 : (0 : Int) ≤ (i : Int) := by omega
    obtain ⟨x11, hx_x11⟩ : ∃ x, (ls)[((i : Int)).toNat]? = some x := ⟨_, List.getElem?_eq_getElem (by omega)⟩
    have g_x11 := hsz x11 (List.mem_of_getElem? hx_x11)
    obtain ⟨b4, o5, cs_b4, ow_b4, ci_b4, ie9, hb6, hc7, hr8⟩ := IsRow.at (P := Tryz.prog) (t := 22) (e := 40) (k := .i64) (by kernel_rfl) (by kernel_rfl) (hl.keep hs) i10 hx_x11
    refine sq.c (v := .pointer (some ⟨b4, o5, none⟩)) rfl rfl ie9 rfl ?_
    refine sq.c (v := .agg #[.string (x11.1), .string (x11.2)]) rfl rfl (ldR (P := Tryz.prog) (t := 40) (k := 2) (xs := [.string (x11.1), .string (x11.2)]) (by kernel_rfl) (by kernel_rfl) hr8) rfl ?_
    have e_b4_n3 : b4 ≠ n3 := hf.ne hb6
    have z_n3 : h.get n3 = none := hf0 _ hn
    refine sq.op rfl rfl (Does.alloc (cs := [.string (⟨#[]⟩), .string (⟨#[]⟩)]) hf (z := .agg #[.string (⟨#[]⟩), .string (⟨#[]⟩)]) (by kernel_rfl) rfl) ?_
    rintro _ h13 n14 ⟨rfl, hb12⟩ s15 hn2 hf
    refine sq.w ?_
    have hs := hs.trans s15
    have hn := Nat.le_trans hn hn2
    refine sq.c (v := .int .i64 (i)) rfl rfl rfl rfl ?_
    refine sq.op rfl rfl (Does.store (k := 2) (xs := [.string (x11.1), .string (x11.2)]) (cs' := [.string (x11.1), .string (x11.2)]) hf (by kernel_rfl) rfl rfl rfl hb12 rfl rfl (Nat.le_of_ble_eq_true rfl) rfl) ?_
    rintro _ h17 n18 ⟨rfl, hb16⟩ s19 hn2 hf
    refine sq.w0 ?_
    have hs := hs.fresh z_n3 s19
    have hn := Nat.le_trans hn hn2
    refine sq.e (AWp.seq ?_)
    refine AWp.anyV pok [] [0, 1, 2, 3, 4, 5, 6, 7, 8, 9, 10, 11, 12, 13, 14, 15, 16, 17, 18, 19, 20, 21, 22, 23, 24] (by kernel_rfl) (by kernel_rfl) rfl (fun x fr fr' h n hd _ q => ⟨hd ▸ q.1, q.2⟩) ?_
    refine dq.c (v := .pointer (some ⟨n3, 0, none⟩)) rfl (by kernel_rfl) rfl rfl (by kernel_rfl) rfl ?_
    refine dq.g (v := .string (x11.1)) rfl (by kernel_rfl) rfl rfl (ld1 (P := Tryz.prog) (t := 9) (p := 0) (v := .string (x11.1)) (by kernel_rfl) (by kernel_rfl) hb16 rfl) rfl ?_
    refine dq.t (v := .bool (mayNameB (x11.1))) rfl (by kernel_rfl) rfl (CallsF.fn rfl (by kernel_rfl) rfl rfl) (fun hf => f20_spec _ g_x11.1) hf rfl ?_
    intro n20 hn2 hf
    have hn := Nat.le_trans hn hn2
    rcases Bool.eq_false_or_eq_true (mayNameB (x11.1)) with c4_2 | c4_2
    · rw [c4_2]
      refine dq.c (v := .bool false) rfl (by kernel_rfl) rfl rfl rfl rfl ?_
      refine dq.c (v := .bool false) rfl (by kernel_rfl) rfl rfl rfl rfl ?_
      refine dq.c (v := .pointer (some ⟨n3, 1, none⟩)) rfl (by kernel_rfl) (wantT (g := 4) (d := 16) rfl rfl rfl) rfl (by kernel_rfl) rfl ?_
      refine dq.g (v := .string (x11.2)) rfl (by kernel_rfl) (wantT (g := 4) (d := 16) rfl rfl rfl) rfl (ld1 (P := Tryz.prog) (t := 9) (p := 1) (v := .string (x11.2)) (by kernel_rfl) (by kernel_rfl) hb16 rfl) rfl ?_
      refine dq.t (v := .bool (mayValueB (x11.2))) rfl (by kernel_rfl) (wantT (g := 4) (d := 16) rfl rfl rfl) (CallsF.fn rfl (by kernel_rfl) rfl rfl) (fun hf => f22_spec _ (hld.keep hs) g_x11.2) hf rfl ?_
      intro n21 hn2 hf
      have hn := Nat.le_trans hn hn2
      rcases Bool.eq_false_or_eq_true (mayValueB (x11.2)) with c4_7 | c4_7
      · rw [c4_7]
        refine dq.c (v := .bool false) rfl (by kernel_rfl) (wantT (g := 4) (d := 16) rfl rfl rfl) rfl rfl rfl ?_
        refine dq.c (v := .bool false) rfl (by kernel_rfl) rfl rfl rfl rfl ?_
        refine dq.c (v := .bool false) rfl (by kernel_rfl) rfl rfl rfl rfl ?_
        refine dq.c (v := .int .i64 (i)) rfl (by kernel_rfl) (wantT (g := 10) (d := 22) rfl rfl rfl) rfl rfl rfl ?_
        refine dq.c (v := .bool (decide ((0 : Int) < i))) rfl (by kernel_rfl) (wantT (g := 10) (d := 22) rfl rfl rfl) rfl rfl rfl ?_
        refine dq.c (v := .bool (decide ((0 : Int) < i))) rfl (by kernel_rfl) (wantT (g := 10) (d := 22) rfl rfl rfl) rfl rfl rfl ?_
        by_cases c4_12 : (0 : Int) < i
        · rw [decide_eq_true c4_12]
          refine dq.c (v := .pointer (some ⟨n3, 0, none⟩)) rfl (by kernel_rfl) (wantT (g := 13) (d := 25) rfl rfl rfl) rfl (by kernel_rfl) rfl ?_
          refine dq.g (v := .string (x11.1)) rfl (by kernel_rfl) (wantT (g := 13) (d := 25) rfl rfl rfl) rfl (ld1 (P := Tryz.prog) (t := 9) (p := 0) (v := .string (x11.1)) (by kernel_rfl) (by kernel_rfl) hb16 rfl) rfl ?_
          refine dq.c (v := .slice a (ls.length) cp) rfl (by kernel_rfl) (wantT (g := 13) (d := 25) rfl rfl rfl) rfl rfl rfl ?_
          refine dq.c (v := .int .i64 (i)) rfl (by kernel_rfl) (wantT (g := 13) (d := 25) rfl rfl rfl) rfl rfl rfl ?_
          refine dq.c (v := .int .i64 (i - 1)) rfl (by kernel_rfl) (wantT (g := 13) (d := 25) rfl rfl rfl) rfl (okI (wrap_i64 (by omega) (by omega))) rfl ?_
          have i28 : (0 : Int) ≤ (i - 1 : Int) := by omega
          obtain ⟨x29, hx_x29⟩ : ∃ x, (ls)[((i - 1 : Int)).toNat]? = some x := ⟨_, List.getElem?_eq_getElem (by omega)⟩
          have g_x29 := hsz x29 (List.mem_of_getElem? hx_x29)
          obtain ⟨b22, o23, cs_b22, ow_b22, ci_b22, ie27, hb24, hc25, hr26⟩ := IsRow.at (P := Tryz.prog) (t := 22) (e := 40) (k := .i64) (by kernel_rfl) (by kernel_rfl) (hl.keep hs) i28 hx_x29
          refine dq.c (v := .pointer (some ⟨b22, o23, none⟩)) rfl (by kernel_rfl) (wantT (g := 13) (d := 25) rfl rfl rfl) rfl ie27 rfl ?_
          refine dq.c (v := .pointer (some ⟨b22, o23, none⟩)) rfl (by kernel_rfl) (wantT (g := 13) (d := 25) rfl rfl rfl) rfl (by kernel_rfl) rfl ?_
          refine dq.g (v := .string (x29.1)) rfl (by kernel_rfl) (wantT (g := 13) (d := 25) rfl rfl rfl) rfl (ld1 (P := Tryz.prog) (t := 9) (p := o23 + 0) (v := .string (x29.1)) (by kernel_rfl) (by kernel_rfl) hb24 (hc25 0 _ rfl)) rfl ?_
          refine dq.c (v := .bool ((lessS x11.1 x29.1 || eqS x11.1 x29.1))) rfl (by kernel_rfl) (wantT (g := 13) (d := 25) rfl rfl rfl) rfl rfl rfl ?_
          refine dq.c (v := .bool ((lessS x11.1 x29.1 || eqS x11.1 x29.1))) rfl (by kernel_rfl) (wantT (g := 10) (d := 22) rfl rfl rfl) rfl rfl rfl ?_
          refine dq.c (v := .bool ((lessS x11.1 x29.1 || eqS x11.1 x29.1))) rfl (by kernel_rfl) rfl rfl rfl rfl ?_
          refine dq.e ?_
          rcases Bool.eq_false_or_eq_true ((lessS x11.1 x29.1 || eqS x11.1 x29.1)) with c4_22 | c4_22
          · rw [c4_22]
            refine AWp.condT rfl rfl ?_
            refine AWp.seq (AWp.rowV (l := _) pok ?_)
            refine sq.c (v := .bool false) rfl rfl rfl rfl ?_
            refine sq.e ?_
            refine AWp.ret ?_
            refine ⟨rfl, [.bool false], rfl, .bool false, rfl, hs, hn, ?_⟩
            show Value.bool false = .bool (mayB ls)
            rw [may_row hx_x11 (by omega) (by rw [show i.toNat - 1 = (i - 1).toNat by omega]; exact hx_x29) c4_22]
          · rw [c4_22]
            refine AWp.condF rfl rfl ?_
            refine AWp.skip (AWp.rowV (l := _) pok ?_)
            refine sq.c (v := .int .i64 (i + 1)) rfl rfl (okI (wrap_i64 (by omega) (by omega))) rfl ?_
            refine sq.c (v := .int .i64 (i + 1)) rfl rfl rfl rfl ?_
            refine sq.e ?_
            have ok1 : okAt ls i.toNat = true := okAt_yes hx_x11 c4_2 c4_7 (.inr ⟨_, by rw [show i.toNat - 1 = (i - 1).toNat by omega]; exact hx_x29, c4_22⟩)
            have hy : ∀ j : Nat, (j : Int) < i + 1 → okAt ls j = true := by
              intro j hj
              by_cases e : j = i.toNat
              · rw [e]; exact ok1
              · exact hyes0 j (by omega)
            refine ⟨_, _, rfl, by omega, i + 1, rfl, hs, hn, hf, (by omega), (by omega), (hy), getV [undef, undef, (y1 2), .int .i64 (i), .pointer (some ⟨n3, 0, none⟩), undef, undef, undef, .bool true, .int .i64 (i), .pointer (some ⟨b4, o5, none⟩), .agg #[.string (x11.1), .string (x11.2)], .pointer (some ⟨n3, 0, none⟩), .string (x11.1), .bool true, .bool false, .bool false, .pointer (some ⟨n3, 1, none⟩), .string (x11.2), .bool true, .bool false, .bool false, .bool false, .int .i64 (i), .bool true, .bool true, .pointer (some ⟨n3, 0, none⟩), .string (x11.1), .slice a (ls.length) cp, .int .i64 (i), .int .i64 (i - 1), .pointer (some ⟨b22, o23, none⟩), .pointer (some ⟨b22, o23, none⟩), .string (x29.1), .bool false, .bool false, .bool false, .int .i64 (i + 1)], rfl⟩
        · rw [decide_eq_false c4_12]
          refine dq.s rfl (wantF (g := 13) (d := 25) rfl rfl rfl) rfl ?_
          refine dq.s rfl (wantF (g := 13) (d := 25) rfl rfl rfl) rfl ?_
          refine dq.s rfl (wantF (g := 13) (d := 25) rfl rfl rfl) rfl ?_
          refine dq.s rfl (wantF (g := 13) (d := 25) rfl rfl rfl) rfl ?_
          refine dq.s rfl (wantF (g := 13) (d := 25) rfl rfl rfl) rfl ?_
          refine dq.s rfl (wantF (g := 13) (d := 25) rfl rfl rfl) rfl ?_
          refine dq.s rfl (wantF (g := 13) (d := 25) rfl rfl rfl) rfl ?_
          refine dq.s rfl (wantF (g := 13) (d := 25) rfl rfl rfl) rfl ?_
          refine dq.s rfl (wantF (g := 13) (d := 25) rfl rfl rfl) rfl ?_
          refine dq.c (v := .bool false) rfl (by kernel_rfl) (wantT (g := 10) (d := 22) rfl rfl rfl) rfl rfl rfl ?_
          refine dq.c (v := .bool false) rfl (by kernel_rfl) rfl rfl rfl rfl ?_
          refine dq.e ?_
          refine AWp.condF rfl rfl ?_
          refine AWp.skip (AWp.rowV (l := _) pok ?_)
          refine sq.c (v := .int .i64 (i + 1)) rfl rfl (okI (wrap_i64 (by omega) (by omega))) rfl ?_
          refine sq.c (v := .int .i64 (i + 1)) rfl rfl rfl rfl ?_
          refine sq.e ?_
          have ok1 : okAt ls i.toNat = true := okAt_yes hx_x11 c4_2 c4_7 (.inl (by omega))
          have hy : ∀ j : Nat, (j : Int) < i + 1 → okAt ls j = true := by
            intro j hj
            by_cases e : j = i.toNat
            · rw [e]; exact ok1
            · exact hyes0 j (by omega)
          refine ⟨_, _, rfl, by omega, i + 1, rfl, hs, hn, hf, (by omega), (by omega), (hy), getV [undef, undef, (y1 2), .int .i64 (i), .pointer (some ⟨n3, 0, none⟩), undef, undef, undef, .bool true, .int .i64 (i), .pointer (some ⟨b4, o5, none⟩), .agg #[.string (x11.1), .string (x11.2)], .pointer (some ⟨n3, 0, none⟩), .string (x11.1), .bool true, .bool false, .bool false, .pointer (some ⟨n3, 1, none⟩), .string (x11.2), .bool true, .bool false, .bool false, .bool false, .int .i64 (i), .bool false, .bool false, undef, undef, undef, undef, undef, undef, undef, undef, undef, .bool false, .bool false, .int .i64 (i + 1)], rfl⟩
      · rw [c4_7]
        refine dq.c (v := .bool true) rfl (by kernel_rfl) rfl rfl rfl rfl ?_
        refine dq.c (v := .bool true) rfl (by kernel_rfl) rfl rfl rfl rfl ?_
        refine dq.c (v := .bool true) rfl (by kernel_rfl) rfl rfl rfl rfl ?_
        refine dq.s rfl (wantF (g := 10) (d := 22) rfl rfl rfl) rfl ?_
        refine dq.s rfl (wantF (g := 10) (d := 22) rfl rfl rfl) rfl ?_
        refine dq.s rfl (wantF (g := 10) (d := 22) rfl rfl rfl) rfl ?_
        refine dq.s rfl (wantU (g := 13) (d := 25) rfl rfl rfl) rfl ?_
        refine dq.s rfl (wantU (g := 13) (d := 25) rfl rfl rfl) rfl ?_
        refine dq.s rfl (wantU (g := 13) (d := 25) rfl rfl rfl) rfl ?_
        refine dq.s rfl (wantU (g := 13) (d := 25) rfl rfl rfl) rfl ?_
        refine dq.s rfl (wantU (g := 13) (d := 25) rfl rfl rfl) rfl ?_
        refine dq.s rfl (wantU (g := 13) (d := 25) rfl rfl rfl) rfl ?_
        refine dq.s rfl (wantU (g := 13) (d := 25) rfl rfl rfl) rfl ?_
        refine dq.s rfl (wantU (g := 13) (d := 25) rfl rfl rfl) rfl ?_
        refine dq.s rfl (wantU (g := 13) (d := 25) rfl rfl rfl) rfl ?_
        refine dq.s rfl (wantF (g := 10) (d := 22) rfl rfl rfl) rfl ?_
        refine dq.c (v := .bool true) rfl (by kernel_rfl) rfl rfl rfl rfl ?_
        refine dq.e ?_
        refine AWp.condT rfl rfl ?_
        refine AWp.seq (AWp.rowV (l := _) pok ?_)
        refine sq.c (v := .bool false) rfl rfl rfl rfl ?_
        refine sq.e ?_
        refine AWp.ret ?_
        refine ⟨rfl, [.bool false], rfl, .bool false, rfl, hs, hn, ?_⟩
        show Value.bool false = .bool (mayB ls)
        rw [may_bad hx_x11 (.inr c4_7)]
    · rw [c4_2]
      refine dq.c (v := .bool true) rfl (by kernel_rfl) rfl rfl rfl rfl ?_
      refine dq.c (v := .bool true) rfl (by kernel_rfl) rfl rfl rfl rfl ?_
      refine dq.s rfl (wantF (g := 4) (d := 16) rfl rfl rfl) rfl ?_
      refine dq.s rfl (wantF (g := 4) (d := 16) rfl rfl rfl) rfl ?_
      refine dq.s rfl (wantF (g := 4) (d := 16) rfl rfl rfl) rfl ?_
      refine dq.s rfl (wantF (g := 4) (d := 16) rfl rfl rfl) rfl ?_
      refine dq.c (v := .bool true) rfl (by kernel_rfl) rfl rfl rfl rfl ?_
      refine dq.c (v := .bool true) rfl (by kernel_rfl) rfl rfl rfl rfl ?_
      refine dq.s rfl (wantF (g := 10) (d := 22) rfl rfl rfl) rfl ?_
      refine dq.s rfl (wantF (g := 10) (d := 22) rfl rfl rfl) rfl ?_
      refine dq.s rfl (wantF (g := 10) (d := 22) rfl rfl rfl) rfl ?_
      refine dq.s rfl (wantU (g := 13) (d := 25) rfl rfl rfl) rfl ?_
      refine dq.s rfl (wantU (g := 13) (d := 25) rfl rfl rfl) rfl ?_
      refine dq.s rfl (wantU (g := 13) (d := 25) rfl rfl rfl) rfl ?_
      refine dq.s rfl (wantU (g := 13) (d := 25) rfl rfl rfl) rfl ?_
      refine dq.s rfl (wantU (g := 13) (d := 25) rfl rfl rfl) rfl ?_
      refine dq.s rfl (wantU (g := 13) (d := 25) rfl rfl rfl) rfl ?_
      refine dq.s rfl (wantU (g := 13) (d := 25) rfl rfl rfl) rfl ?_
      refine dq.s rfl (wantU (g := 13) (d := 25) rfl rfl rfl) rfl ?_
      refine dq.s rfl (wantU (g := 13) (d := 25) rfl rfl rfl) rfl ?_
      refine dq.s rfl (wantF (g := 10) (d := 22) rfl rfl rfl) rfl ?_
      refine dq.c (v := .bool true) rfl (by kernel_rfl) rfl rfl rfl rfl ?_
      refine dq.e ?_
      refine AWp.condT rfl rfl ?_
      refine AWp.seq (AWp.rowV (l := _) pok ?_)
      refine sq.c (v := .bool false) rfl rfl rfl rfl ?_
      refine sq.e ?_
      refine AWp.ret ?_
      refine ⟨rfl, [.bool false], rfl, .bool false, rfl, hs, hn, ?_⟩
      show Value.bool false = .bool (mayB ls)
      rw [may_bad hx_x11 (.inl c4_2)]
  · rw [decide_eq_false c2_0]
    refine AWp.condF rfl rfl ?_
    refine AWp.exit ?_
    refine AWp.seq (AWp.rowV (l := _) pok ?_)
    refine sq.c (v := .slice a (ls.length) cp) rfl rfl rfl rfl ?_
    refine sq.c (v := .int .i64 (ls.length)) rfl rfl (by kernel_rfl) rfl ?_
    refine sq.c (v := .bool (decide ((0 : Int) < ((ls.length : Nat) : Int)))) rfl rfl rfl rfl ?_
    refine sq.c (v := .bool (decide ((0 : Int) < ((ls.length : Nat) : Int)))) rfl rfl rfl rfl ?_
    by_cases c7_2 : (0 : Int) < ((ls.length : Nat) : Int)
    · rw [decide_eq_true c7_2]
      refine sq.c (v := .slice a (ls.length) cp) (wantT (g := 3) (d := 41) rfl rfl rfl) rfl rfl rfl ?_
      refine sq.c (v := .int .i64 (ls.length)) (wantT (g := 3) (d := 41) rfl rfl rfl) rfl (by kernel_rfl) rfl ?_
      refine sq.c (v := .bool (decide (((ls.length : Nat) : Int) ≤ (16 : Int)))) (wantT (g := 3) (d := 41) rfl rfl rfl) rfl rfl rfl ?_
      refine sq.c (v := .bool (decide (((ls.length : Nat) : Int) ≤ (16 : Int)))) rfl rfl rfl rfl ?_
      refine sq.c (v := .bool (decide (((ls.length : Nat) : Int) ≤ (16 : Int)))) rfl rfl rfl rfl ?_
      refine sq.e ?_
      refine AWp.ret ?_
      refine ⟨rfl, [.bool (decide (((ls.length : Nat) : Int) ≤ (16 : Int)))], rfl, .bool (decide (((ls.length : Nat) : Int) ≤ (16 : Int))), rfl, hs, hn, ?_⟩
      have hyes : ∀ j : Nat, j < ls.length → okAt ls j = true := fun j hj => hyes0 j (by omega)
      show Value.bool (decide (((ls.length : Nat) : Int) ≤ (16 : Int))) = .bool (mayB ls)
      rw [may_all hyes]; exact congrArg Value.bool (decide_eq_decide.2 (by omega))
    · rw [decide_eq_false c7_2]
      refine sq.s (wantF (g := 3) (d := 41) rfl rfl rfl) rfl ?_
      refine sq.s (wantF (g := 3) (d := 41) rfl rfl rfl) rfl ?_
      refine sq.s (wantF (g := 3) (d := 41) rfl rfl rfl) rfl ?_
      refine sq.c (v := .bool false) rfl rfl rfl rfl ?_
      refine sq.c (v := .bool false) rfl rfl rfl rfl ?_
      refine sq.e ?_
      refine AWp.ret ?_
      refine ⟨rfl, [.bool false], rfl, .bool false, rfl, hs, hn, ?_⟩
      have hyes : ∀ j : Nat, j < ls.length → okAt ls j = true := fun j hj => hyes0 j (by omega)
      show Value.bool false = .bool (mayB ls)
      rw [may_len (by omega)]
theorem f47_spec {h : Heap} {n : Nat} {a a2 : Option Addr} {cp cp2 : Nat} (ls ms : List Lab) (hl : IsRow encLab h (.slice a ls.length cp) ls) (hm : IsRow encLab h (.slice a2 ms.length cp2) ms) (hlen : ls.length < 9223372036854775808) :
    Tells Tryz.prog 47 [.slice a (ls.length) cp, .slice a2 (ms.length) cp2] h n (.bool (decide (ls = ms))) := by
  refine Makes.tells (Makes.free fun hf => ?_)
  have hs : SubBut h h [] := .refl _ _
  have hn : n ≤ n := Nat.le_refl _
  have hf0 := hf
  refine Makes.of_bodyV (args := [.slice a (ls.length) cp, .slice a2 (ms.length) cp2]) (vs := [.slice a (ls.length) cp, .slice a2 (ms.length) cp2, undef, undef, undef, undef, undef, undef, undef, undef, undef, undef, undef, undef, undef, undef, undef, undef, undef, undef, undef, undef, undef, undef, undef, undef]) Tryz.func47 rfl rfl ?_
  refine AWp.seq (AWp.rowV (l := _) pok ?_)
  refine sq.c (v := .bool false) rfl rfl rfl rfl ?_
  refine sq.e (AWp.seq (AWp.seq (AWp.rowV (l := _) pok ?_)))
  refine sq.c (v := .slice a (ls.length) cp) rfl rfl rfl rfl ?_
  refine sq.c (v := .int .i64 (ls.length)) rfl rfl (by kernel_rfl) rfl ?_
  refine sq.c (v := .slice a2 (ms.length) cp2) rfl rfl rfl rfl ?_
  refine sq.c (v := .int .i64 (ms.length)) rfl rfl (by kernel_rfl) rfl ?_
  refine sq.c (v := .bool (!decide (((ls.length : Nat) : Int) = ((ms.length : Nat) : Int)))) rfl rfl rfl rfl ?_
  refine sq.e ?_
  by_cases c1_4 : ((ls.length : Nat) : Int) = ((ms.length : Nat) : Int)
  · rw [decide_eq_true c1_4]
    refine AWp.condF rfl rfl ?_
    refine AWp.skip (AWp.seq (AWp.seq (AWp.rowV (l := _) pok ?_)))
    refine sq.c (v := .slice a (ls.length) cp) rfl rfl rfl rfl ?_
    refine sq.c (v := .int .i64 (ls.length)) rfl rfl (by kernel_rfl) rfl ?_
    refine sq.c (v := .int .i64 (0)) rfl rfl rfl rfl ?_
    refine sq.e (AWp.block ?_)
    refine AWp.loopV (fun d vs h' n2 => ∃ (i : Int), d = ((ls.length : Nat) - i + 1).toNat ∧ h = h' ∧ n ≤ n2 ∧ Free h n2 ∧ (0 ≤ i) ∧ (i ≤ (ls.length : Nat)) ∧ (∀ j : Nat, (j : Int) < i → ls[j]? = ms[j]?) ∧ ∃ y1 : Nat → Value, vs = [.slice a (ls.length) cp, .slice a2 (ms.length) cp2, undef, undef, (y1 4), (y1 5), .slice a (ls.length) cp, .int .i64 (ls.length), .slice a2 (ms.length) cp2, .int .i64 (ms.length), .bool false, .slice a (ls.length) cp, .int .i64 (ls.length), .int .i64 (i), (y1 14), (y1 15), (y1 16), (y1 17), (y1 18), (y1 19), (y1 20), (y1 21), (y1 22), (y1 23), (y1 24), (y1 25)]) (((ls.length : Nat) - (0 : Int) + 1).toNat) ⟨0, rfl, rfl, hn, hf, (by omega), (by omega), (fun j hj => by omega), getV [undef, undef, undef, undef, .bool false, undef, undef, undef, undef, undef, undef, undef, undef, undef, undef, undef, undef, undef, undef, undef, undef, undef, undef, undef, undef, undef], rfl⟩ ?_
    rintro d vs h' n2 ⟨i, rfl, rfl, hn, hf, hi0, hi1, hyes, y1, rfl⟩
    refine AWp.seq (AWp.rowV (l := _) pok ?_)
    refine sq.c (v := .bool (decide (i < ((ls.length : Nat) : Int)))) rfl rfl rfl rfl ?_
    refine sq.e (AWp.seq ?_)
    by_cases c4_0 : i < ((ls.length : Nat) : Int)
    · rw [decide_eq_true c4_0]
      refine AWp.condT rfl rfl ?_
      refine AWp.skip (AWp.seq (AWp.block (AWp.seq (AWp.rowV (l := _) pok ?_))))
      refine sq.c (v := .int .i64 (i)) rfl rfl rfl rfl ?_
      refine sq.c (v := .int .i64 (i)) rfl rfl rfl rfl ?_
      refine sq.e (AWp.seq ?_)
      refine AWp.anyV pok [] [0, 1, 2, 3, 4, 5, 6, 7, 8] (by kernel_rfl) (by kernel_rfl) rfl (fun x fr fr' h n hd _ q => ⟨hd ▸ q.1, q.2⟩) ?_
      refine dq.c (v := .slice a (ls.length) cp) rfl (by kernel_rfl) rfl rfl rfl rfl ?_
      refine dq.c (v := .int .i64 (i)) rfl (by kernel_rfl) rfl rfl rfl rfl ?_
      have i9 : (0 : Int) ≤ (i : Int) := by omega
      obtain ⟨x10, hx_x10⟩ : ∃ x, (ls)[((i : Int)).toNat]? = some x := ⟨_, List.getElem?_eq_getElem (by omega)⟩
      obtain ⟨b3, o4, cs_b3, ow_b3, ci_b3, ie8, hb5, hc6, hr7⟩ := IsRow.at (P := Tryz.prog) (t := 22) (e := 40) (k := .i64) (by kernel_rfl) (by kernel_rfl) (hl.keep hs) i9 hx_x10
      refine dq.c (v := .pointer (some ⟨b3, o4, none⟩)) rfl (by kernel_rfl) rfl rfl ie8 rfl ?_
      refine dq.g (v := .agg #[.string (x10.1), .string (x10.2)]) rfl (by kernel_rfl) rfl rfl (ldR (P := Tryz.prog) (t := 40) (k := 2) (xs := [.string (x10.1), .string (x10.2)]) (by kernel_rfl) (by kernel_rfl) hr7) rfl ?_
      refine dq.c (v := .slice a2 (ms.length) cp2) rfl (by kernel_rfl) rfl rfl rfl rfl ?_
      refine dq.c (v := .int .i64 (i)) rfl (by kernel_rfl) rfl rfl rfl rfl ?_
      have i17 : (0 : Int) ≤ (i : Int) := by omega
      obtain ⟨x18, hx_x18⟩ : ∃ x, (ms)[((i : Int)).toNat]? = some x := ⟨_, List.getElem?_eq_getElem (by omega)⟩
      obtain ⟨b11, o12, cs_b11, ow_b11, ci_b11, ie16, hb13, hc14, hr15⟩ := IsRow.at (P := Tryz.prog) (t := 22) (e := 40) (k := .i64) (by kernel_rfl) (by kernel_rfl) (hm.keep hs) i17 hx_x18
      refine dq.c (v := .pointer (some ⟨b11, o12, none⟩)) rfl (by kernel_rfl) rfl rfl ie16 rfl ?_
      refine dq.g (v := .agg #[.string (x18.1), .string (x18.2)]) rfl (by kernel_rfl) rfl rfl (ldR (P := Tryz.prog) (t := 40) (k := 2) (xs := [.string (x18.1), .string (x18.2)]) (by kernel_rfl) (by kernel_rfl) hr15) rfl ?_
      refine dq.c (v := .bool (!decide (x10 = x18))) rfl (by kernel_rfl) rfl rfl (labNe _ _) rfl ?_
      refine dq.e ?_
      by_cases c6_8 : x10 = x18
      · rw [decide_eq_true c6_8]
        refine AWp.condF rfl rfl ?_
        refine AWp.skip (AWp.rowV (l := _) pok ?_)
        refine sq.c (v := .int .i64 (i + 1)) rfl rfl (okI (wrap_i64 (by omega) (by omega))) rfl ?_
        refine sq.c (v := .int .i64 (i + 1)) rfl rfl rfl rfl ?_
        refine sq.e ?_
        have hy : ∀ j : Nat, (j : Int) < i + 1 → ls[j]? = ms[j]? := by
          intro j hj
          by_cases e : j = i.toNat
          · rw [e, hx_x10, hx_x18, show x10 = x18 from c6_8]
          · exact hyes j (by omega)
        refine ⟨_, _, rfl, by omega, i + 1, rfl, rfl, hn, hf, (by omega), (by omega), (hy), getV [undef, undef, undef, undef, (y1 4), .int .i64 (i), undef, undef, undef, undef, undef, undef, undef, undef, .bool true, .int .i64 (i), .slice a (ls.length) cp, .int .i64 (i), .pointer (some ⟨b3, o4, none⟩), .agg #[.string (x10.1), .string (x10.2)], .slice a2 (ms.length) cp2, .int .i64 (i), .pointer (some ⟨b11, o12, none⟩), .agg #[.string (x18.1), .string (x18.2)], .bool false, .int .i64 (i + 1)], rfl⟩
      · rw [decide_eq_false c6_8]
        refine AWp.condT rfl rfl ?_
        refine AWp.seq (AWp.rowV (l := _) pok ?_)
        refine sq.c (v := .bool false) rfl rfl rfl rfl ?_
        refine sq.e ?_
        refine AWp.ret ?_
        refine ⟨rfl, [.bool false], rfl, .bool false, rfl, hs, hn, ?_⟩
        show Value.bool false = .bool (decide (ls = ms))
        exact congrArg Value.bool (decide_eq_false (same_not hx_x10 hx_x18 (by exact c6_8))).symm
    · rw [decide_eq_false c4_0]
      refine AWp.condF rfl rfl ?_
      refine AWp.exit ?_
      refine AWp.seq (AWp.rowV (l := _) pok ?_)
      refine sq.c (v := .bool true) rfl rfl rfl rfl ?_
      refine sq.e ?_
      refine AWp.ret ?_
      refine ⟨rfl, [.bool true], rfl, .bool true, rfl, hs, hn, ?_⟩
      show Value.bool true = .bool (decide (ls = ms))
      exact congrArg Value.bool (decide_eq_true (same_all (Int.ofNat.inj c1_4) (fun j hj => hyes j (by omega)))).symm
  · rw [decide_eq_false c1_4]
    refine AWp.condT rfl rfl ?_
    refine AWp.seq (AWp.rowV (l := _) pok ?_)
    refine sq.c (v := .bool false) rfl rfl rfl rfl ?_
    refine sq.e ?_
    refine AWp.ret ?_
    refine ⟨rfl, [.bool false], rfl, .bool false, rfl, hs, hn, ?_⟩
    show Value.bool false = .bool (decide (ls = ms))
    exact congrArg Value.bool (decide_eq_false (fun e => c1_4 (by rw [e]))).symm
theorem f26_spec {h : Heap} {n : Nat} {a a2 : Option Addr} {cp cp2 : Nat} (ls ms : List Lab) (hl : IsRow encLab h (.slice a ls.length cp) ls) (hm : IsRow encLab h (.slice a2 ms.length cp2) ms) (hlen : ls.length < 9223372036854775808) :
    Tells Tryz.prog 26 [.slice a (ls.length) cp, .slice a2 (ms.length) cp2] h n (.bool (decide (ls = ms))) := by
  refine Makes.tells (Makes.free fun hf => ?_)
  have hs : SubBut h h [] := .refl _ _
  have hn : n ≤ n := Nat.le_refl _
  have hf0 := hf
  refine Makes.of_bodyV (args := [.slice a (ls.length) cp, .slice a2 (ms.length) cp2]) (vs := [.slice a (ls.length) cp, .slice a2 (ms.length) cp2, undef, undef, undef, undef, undef, undef]) Tryz.func26 rfl rfl ?_
  refine AWp.seq (AWp.rowV (l := _) pok ?_)
  refine sq.c (v := .bool false) rfl rfl rfl rfl ?_
  refine sq.e (AWp.seq (AWp.rowV (l := _) pok ?_))
  refine sq.c (v := .slice a (ls.length) cp) rfl rfl rfl rfl ?_
  refine sq.c (v := .slice a2 (ms.length) cp2) rfl rfl rfl rfl ?_
  refine sq.t (v := .bool (decide (ls = ms))) rfl (CallsF.fn rfl (by kernel_rfl) rfl rfl) (fun hf => f47_spec _ _ hl hm hlen) hf rfl ?_
  intro n1 hn2 hf
  have hn := Nat.le_trans hn hn2
  refine sq.c (v := .bool (decide (ls = ms))) rfl rfl rfl rfl ?_
  refine sq.e ?_
  refine AWp.ret ?_
  refine ⟨rfl, [.bool (decide (ls = ms))], rfl, .bool (decide (ls = ms)), rfl, hs, hn, ?_⟩
  rfl
theorem appByte : AppT Tryz.prog encByte 42 5 1 := ⟨by kernel_rfl, by kernel_rfl, by kernel_rfl, fun _ => rfl⟩
def lo8 (n : Int) : UInt8 := UInt8.ofNat n.toNat
theorem wrap_lo8 {n : Int} (h : 0 ≤ n) : IntKind.u8.wrap n = ((lo8 n).toNat : Int) := by
  have e : IntKind.u8.wrap n = n % 256 := by simp [IntKind.wrap, IntKind.bits, IntKind.signed]
  rw [e]
  unfold lo8
  rw [UInt8.toNat_ofNat']
  omega
def hi8 (u : UInt8) : UInt8 := u ||| 128
theorem or_hi8 (u : UInt8) : binE Tryz.prog .or 5 false true (.int .u8 u.toNat) (.int .u8 128) = some (.int .u8 (hi8 u).toNat) := by
  have e : intE .or .u8 u.toNat 128 = some (.int .u8 (hi8 u).toNat) := by
    have hu := u.toNat_lt
    have hc : ∀ n, n < 256 → IntKind.u8.wrap ((BitVec.ofInt IntKind.u8.bits (n : Nat) ||| BitVec.ofInt IntKind.u8.bits 128).toNat) = ((n ||| 128 : Nat) : Int) := by
      have : ((List.range 256).all fun n => IntKind.u8.wrap ((BitVec.ofInt IntKind.u8.bits (n : Nat) ||| BitVec.ofInt IntKind.u8.bits 128).toNat) == ((n ||| 128 : Nat) : Int)) = true := by kernel_rfl
      intro n hn
      simpa using List.all_eq_true.1 this n (List.mem_range.2 hn)
    show some (Value.int .u8 (IntKind.u8.wrap _)) = _
    rw [hc _ hu]
    unfold hi8
    rw [UInt8.toNat_or]
    rfl
  exact e
theorem lo8_nat (n : Int) : lo8 (n.toNat : Nat) = lo8 n := by unfold lo8; rw [Int.toNat_natCast]
def uvar (n : Nat) : List UInt8 := if n < 128 then [lo8 n] else hi8 (lo8 n) :: uvar (n / 128)
theorem uvar_lt {n : Int} (h : n < 128) : uvar n.toNat = [lo8 n] := by
  rw [uvar, if_pos (by omega), lo8_nat]
theorem uvar_ge {n : Int} (h : 128 ≤ n) : uvar n.toNat = hi8 (lo8 n) :: uvar (n / 128).toNat := by
  rw [uvar, if_neg (by omega), show (n / 128).toNat = n.toNat / 128 by omega, lo8_nat]
theorem uvar_pos (n : Nat) : 0 < (uvar n).length := by
  rw [uvar]; split <;> simp
theorem uvar_len : ∀ (k n : Nat), n < 128 ^ (k + 1) → (uvar n).length ≤ k + 1 := by
  intro k
  induction k with
  | zero => intro n h; rw [uvar, if_pos (by simpa using h)]; simp
  | succ k ih =>
    intro n h
    rw [uvar]
    split
    · simp
    · have := ih (n / 128) (by rw [Nat.div_lt_iff_lt_mul (by decide), ← Nat.pow_succ]; exact h)
      simp only [List.length_cons]; omega
theorem uvar_ten {n : Int} (h0 : 0 ≤ n) (h1 : n < 18446744073709551616) : (uvar n.toNat).length ≤ 10 := uvar_len 9 _ (by omega)
def txt (s : ByteArray) : List UInt8 := uvar s.data.toList.length ++ s.data.toList
theorem txt_len (s : ByteArray) (h : s.data.toList.length < 9223372036854775808) : (txt s).length ≤ s.data.toList.length + 10 := by
  unfold txt
  have := uvar_ten (n := s.data.toList.length) (by omega) (by omega)
  simp at this
  simp
  omega
def keyB (ls : List Lab) : List UInt8 := ls.flatMap fun x => txt x.1 ++ txt x.2
theorem keyB_step {ls : List Lab} {i : Nat} {x : Lab} (h : ls[i]? = some x) : keyB (ls.take (i + 1)) = keyB (ls.take i) ++ (txt x.1 ++ txt x.2) := by
  unfold keyB
  obtain ⟨hi, rfl⟩ := List.getElem?_eq_some_iff.1 h
  rw [List.take_succ_eq_append_getElem hi, List.flatMap_append]
  simp
theorem keyB_len (ls : List Lab) (h : ∀ x ∈ ls, x.1.data.toList.length < 5000 ∧ x.2.data.toList.length < 5000) : (keyB ls).length ≤ ls.length * 10100 := by
  induction ls with
  | nil => simp [keyB]
  | cons x r ih =>
    have h1 := h x (List.mem_cons_self ..)
    have h2 := ih fun y hy => h y (List.mem_cons_of_mem _ hy)
    have h3 := txt_len x.1 (by omega)
    have h4 := txt_len x.2 (by omega)
    unfold keyB at *
    rw [List.flatMap_cons, List.length_append, List.length_append, List.length_cons]
    omega
theorem f73_spec {h : Heap} {n : Nat} {a : Option Addr} {cp : Nat} (bs : List UInt8) (m : Int) (R_b : OwnRow encByte 5 (Trie.nil : Heap) h (.slice a bs.length cp) bs) (hm0 : 0 ≤ m) (hm1 : m < 18446744073709551616) (hlb : bs.length < 1000000000000) :
    Makes Tryz.prog 73 [.slice a (bs.length) cp, .int .u64 (m)] h n ((blkOf (.slice a bs.length cp))) (fun v h2 _ => OwnRow encByte 5 (Trie.nil : Heap) h2 v (bs ++ uvar m.toNat) ∧ ∀ c ∈ blkOf v, c ∈ blkOf (.slice a bs.length cp) ∨ n ≤ c) := by
  refine Makes.free fun hf => ?_
  have B_b : ∀ c ∈ blkOf (.slice a bs.length cp), c ∈ blkOf (.slice a bs.length cp) ∨ n ≤ c := fun c hc => .inl hc
  have hlm := uvar_ten hm0 hm1
  have hs : SubBut h h ((blkOf (.slice a bs.length cp))) := .refl _ _
  have hn : n ≤ n := Nat.le_refl _
  have hf0 := hf
  refine Makes.of_bodyV (args := [.slice a (bs.length) cp, .int .u64 (m)]) (vs := [.slice a (bs.length) cp, .int .u64 (m), undef, undef, undef, undef, undef, undef, undef, undef, undef, undef, undef, undef, undef, undef, undef, undef, undef, undef]) Tryz.func73 rfl rfl ?_
  refine AWp.seq (AWp.rowV (l := _) pok ?_)
  refine sq.c (v := .slice none (0) (0)) rfl rfl rfl rfl ?_
  refine sq.e (AWp.seq (AWp.block ?_))
  refine AWp.loopV (fun d vs h2 n3 => ∃ (k : Int) (zs : List UInt8) (a_b : Option Addr) (cp_b : Nat), d = k.toNat ∧ SubBut h h2 ((blkOf (.slice a bs.length cp))) ∧ n ≤ n3 ∧ Free h2 n3 ∧ OwnRow encByte 5 (Trie.nil : Heap) h2 (.slice a_b (zs).length cp_b) (zs) ∧ (∀ c ∈ blkOf (.slice a_b (zs).length cp_b), c ∈ (blkOf (.slice a bs.length cp)) ∨ n ≤ c) ∧ (0 ≤ k) ∧ (k < 18446744073709551616) ∧ (zs ++ uvar k.toNat = bs ++ uvar m.toNat) ∧ ∃ y1 : Nat → Value, vs = [.slice a_b (zs.length) cp_b, .int .u64 (k), undef, undef, .slice none (0) (0), (y1 5), (y1 6), (y1 7), (y1 8), (y1 9), (y1 10), (y1 11), (y1 12), (y1 13), (y1 14), undef, undef, undef, undef, undef]) (m.toNat) ⟨m, bs, a, cp, rfl, hs, hn, hf, R_b, B_b, (by omega), (by omega), (rfl), getV [undef, undef, undef, undef, undef, undef, undef, undef, undef, undef, undef, undef, undef, undef, undef], rfl⟩ ?_
  rintro d vs h2 n3 ⟨k, zs, a_b, cp_b, rfl, hs, hn, hf, R_b, B_b, hk0, hk1, hq, y1, rfl⟩
  have hzl : zs.length + (uvar k.toNat).length = bs.length + (uvar m.toNat).length := by rw [← List.length_append, hq, List.length_append]
  refine AWp.seq (AWp.seq (AWp.rowV (l := _) pok ?_))
  refine sq.c (v := .int .u64 (k)) rfl rfl rfl rfl ?_
  refine sq.c (v := .bool (decide ((128 : Int) ≤ k))) rfl rfl rfl rfl ?_
  refine sq.e ?_
  by_cases c1_1 : (128 : Int) ≤ k
  · rw [decide_eq_true c1_1]
    refine AWp.condT rfl rfl ?_
    refine AWp.skip (AWp.seq (AWp.block (AWp.rowV (l := _) pok ?_)))
    refine sq.c (v := .slice a_b (zs.length) cp_b) rfl rfl rfl rfl ?_
    refine sq.c (v := .int .u64 (k)) rfl rfl rfl rfl ?_
    refine sq.c (v := .int .u8 (((lo8 k).toNat : Int))) rfl rfl (Eq.trans (b := some (.int .u8 (IntKind.u8.wrap (k)))) (by kernel_rfl) (okI (wrap_lo8 (by omega)))) rfl ?_
    refine sq.c (v := .int .u8 (((hi8 (lo8 k)).toNat : Int))) rfl rfl (or_hi8 _) rfl ?_
    have d_b_n3 : ∀ c ∈ blkOf (.slice a_b (zs).length cp_b), c ≠ n3 := fun c hc e => R_b.ne' (hf _ (Nat.le_refl _)) c hc (List.mem_singleton.2 e)
    have z_n3 : h.get n3 = none := hf0 _ hn
    refine sq.op rfl rfl (Does.build (e := 5) (cs := [.int .u8 (((hi8 (lo8 k)).toNat : Int))]) hf (fun _ _ => by kernel_rfl)) ?_
    rintro _ h5 n6 ⟨rfl, hb4⟩ s7 hn2 hf
    refine sq.w ?_
    have R_b := R_b.keep s7
    have hs := hs.trans (s7.mono (by simp))
    have hn := Nat.le_trans hn hn2
    have hfo := hf
    refine sq.op rfl rfl (Does.append (E := encByte) (xs := zs) (ys := [hi8 (lo8 k)]) appByte ⟨.slice 5, by kernel_rfl, fun _ q => by cases q⟩ hf (nil_sub h5 []) R_b (IsRow.of (E := encByte) (xs := [hi8 (lo8 k)]) (cap := 1) hb4 (Nat.le_refl _)) rfl rfl (by simp only [List.length_cons, List.length_nil]; omega) (by simp only [List.length_cons, List.length_nil]; omega) rfl) ?_
    rintro v11 h8 n9 ⟨R_b, _, hB12⟩ s10 hn2 hf
    have hs := hs.own B_b hf0 s10
    have B_b : ∀ c ∈ blkOf v11, c ∈ (blkOf (.slice a bs.length cp)) ∨ n ≤ c := fun c hc => (hB12 c hc).elim (B_b c) (fun q => .inr (q ▸ hn))
    refine sq.w ?_
    have dn_b_n3 : ∀ c ∈ blkOf v11, c ≠ n3 := fun c hc => (hB12 c hc).elim (fun q => d_b_n3 c q) (fun q => by rw [q]; exact (hfo.ne hb4).symm)
    have hb4 := s10 _ _ (fun hm => d_b_n3 _ hm rfl) hb4
    have d_b_n3 := dn_b_n3
    obtain ⟨a13, cp14, rfl⟩ := R_b.slice
    have hn := Nat.le_trans hn hn2
    refine sq.c (v := .slice a13 (zs ++ [hi8 (lo8 k)]).length cp14) rfl rfl rfl rfl ?_
    refine sq.e (AWp.rowV (l := _) pok ?_)
    refine sq.c (v := .int .u64 (k)) rfl rfl rfl rfl ?_
    refine sq.c (v := .int .u64 (k / 128)) rfl rfl (okI (shr_lit (by rfl) (by decide))) rfl ?_
    refine sq.c (v := .int .u64 (k / 128)) rfl rfl rfl rfl ?_
    refine sq.e ?_
    refine ⟨_, _, rfl, by omega, k / 128, zs ++ [hi8 (lo8 k)], a13, cp14, rfl, hs, hn, hf, R_b, B_b, (by omega), (by omega), (by rw [← hq, uvar_ge (n := k) (by omega), List.append_assoc]; rfl), getV [undef, undef, undef, undef, undef, .int .u64 (k), .bool true, .int .u64 (k), .int .u64 (k / 128), .slice a_b (zs.length) cp_b, .int .u64 (k), .int .u8 (((lo8 k).toNat : Int)), .int .u8 (((hi8 (lo8 k)).toNat : Int)), .slice (some ⟨n3, 0, none⟩) (1) (1), .slice a13 (zs ++ [hi8 (lo8 k)]).length cp14], rfl⟩
  · rw [decide_eq_false c1_1]
    refine AWp.condF rfl rfl ?_
    refine AWp.exit ?_
    refine AWp.seq (AWp.rowV (l := _) pok ?_)
    refine sq.c (v := .slice a_b (zs.length) cp_b) rfl rfl rfl rfl ?_
    refine sq.c (v := .int .u64 (k)) rfl rfl rfl rfl ?_
    refine sq.c (v := .int .u8 (((lo8 k).toNat : Int))) rfl rfl (Eq.trans (b := some (.int .u8 (IntKind.u8.wrap (k)))) (by kernel_rfl) (okI (wrap_lo8 (by omega)))) rfl ?_
    have d_b_n3 : ∀ c ∈ blkOf (.slice a_b (zs).length cp_b), c ≠ n3 := fun c hc e => R_b.ne' (hf _ (Nat.le_refl _)) c hc (List.mem_singleton.2 e)
    have z_n3 : h.get n3 = none := hf0 _ hn
    refine sq.op rfl rfl (Does.build (e := 5) (cs := [.int .u8 (((lo8 k).toNat : Int))]) hf (fun _ _ => by kernel_rfl)) ?_
    rintro _ h16 n17 ⟨rfl, hb15⟩ s18 hn2 hf
    refine sq.w ?_
    have R_b := R_b.keep s18
    have hs := hs.trans (s18.mono (by simp))
    have hn := Nat.le_trans hn hn2
    have hfo := hf
    refine sq.op rfl rfl (Does.append (E := encByte) (xs := zs) (ys := [lo8 k]) appByte ⟨.slice 5, by kernel_rfl, fun _ q => by cases q⟩ hf (nil_sub h16 []) R_b (IsRow.of (E := encByte) (xs := [lo8 k]) (cap := 1) hb15 (Nat.le_refl _)) rfl rfl (by simp only [List.length_cons, List.length_nil]; omega) (by simp only [List.length_cons, List.length_nil]; omega) rfl) ?_
    rintro v22 h19 n20 ⟨R_b, _, hB23⟩ s21 hn2 hf
    have hs := hs.own B_b hf0 s21
    have B_b : ∀ c ∈ blkOf v22, c ∈ (blkOf (.slice a bs.length cp)) ∨ n ≤ c := fun c hc => (hB23 c hc).elim (B_b c) (fun q => .inr (q ▸ hn))
    refine sq.w ?_
    have dn_b_n3 : ∀ c ∈ blkOf v22, c ≠ n3 := fun c hc => (hB23 c hc).elim (fun q => d_b_n3 c q) (fun q => by rw [q]; exact (hfo.ne hb15).symm)
    have hb15 := s21 _ _ (fun hm => d_b_n3 _ hm rfl) hb15
    have d_b_n3 := dn_b_n3
    obtain ⟨a24, cp25, rfl⟩ := R_b.slice
    have hn := Nat.le_trans hn hn2
    refine sq.c (v := .slice a24 (zs ++ [lo8 k]).length cp25) rfl rfl rfl rfl ?_
    refine sq.e ?_
    refine AWp.ret ?_
    refine ⟨rfl, [.slice a24 (zs ++ [lo8 k]).length cp25], rfl, .slice a24 (zs ++ [lo8 k]).length cp25, rfl, hs, hn, ?_⟩
    rw [uvar_lt (by omega)] at hq
    rw [← hq]
    exact ⟨R_b, B_b⟩
theorem f48_spec {h : Heap} {n : Nat} {a : Option Addr} {cp : Nat} (bs : List UInt8) (s : ByteArray) (R_b : OwnRow encByte 5 (Trie.nil : Heap) h (.slice a bs.length cp) bs) (hlb : bs.length < 100000000000) (hls : s.data.toList.length < 100000000000) :
    Makes Tryz.prog 48 [.slice a (bs.length) cp, .string (s)] h n ((blkOf (.slice a bs.length cp))) (fun v h2 _ => OwnRow encByte 5 (Trie.nil : Heap) h2 v (bs ++ txt s) ∧ ∀ c ∈ blkOf v, c ∈ blkOf (.slice a bs.length cp) ∨ n ≤ c) := by
  refine Makes.free fun hf => ?_
  have B_b : ∀ c ∈ blkOf (.slice a bs.length cp), c ∈ blkOf (.slice a bs.length cp) ∨ n ≤ c := fun c hc => .inl hc
  have hlt := txt_len s (by omega)
  have htx : txt s = uvar s.data.toList.length ++ s.data.toList := rfl
  rw [htx, List.length_append] at hlt
  have hs : SubBut h h ((blkOf (.slice a bs.length cp))) := .refl _ _
  have hn : n ≤ n := Nat.le_refl _
  have hf0 := hf
  refine Makes.of_bodyV (args := [.slice a (bs.length) cp, .string (s)]) (vs := [.slice a (bs.length) cp, .string (s), undef, undef, undef, undef, undef, undef, undef, undef, undef, undef]) Tryz.func48 rfl rfl ?_
  refine AWp.seq (AWp.rowV (l := _) pok ?_)
  refine sq.c (v := .slice none (0) (0)) rfl rfl rfl rfl ?_
  refine sq.e (AWp.seq (AWp.rowV (l := _) pok ?_))
  refine sq.c (v := .slice a (bs.length) cp) rfl rfl rfl rfl ?_
  refine sq.c (v := .string (s)) rfl rfl rfl rfl ?_
  refine sq.c (v := .int .i64 ((((s).data.toList.length : Nat) : Int))) rfl rfl (by kernel_rfl) rfl ?_
  refine sq.c (v := .int .u64 ((((s).data.toList.length : Nat) : Int))) rfl rfl (Eq.trans (b := some (.int .u64 (IntKind.u64.wrap ((((s).data.toList.length : Nat) : Int))))) (by kernel_rfl) (okI (wrap_u64 (by omega) (by omega)))) rfl ?_
  have hfo := hf
  refine sq.k rfl (CallsF.fn rfl (by kernel_rfl) rfl rfl) (f73_spec bs (s.data.toList.length : Int) R_b (by omega) (by omega) (by omega)) ?_
  rintro v1 h2 n3 ⟨R_u, hB_u⟩ s4 hn2 hf
  refine sq.w ?_
  have hs := hs.own B_b hf0 s4
  have B_u : ∀ c ∈ blkOf v1, c ∈ (blkOf (.slice a bs.length cp)) ∨ n ≤ c := fun c hc => (hB_u c hc).elim (B_b c) (fun q => .inr (Nat.le_trans hn q))
  obtain ⟨a_u0, cp_u0, rfl⟩ := R_u.slice
  have hn := Nat.le_trans hn hn2
  refine sq.c (v := .string (s)) rfl rfl rfl rfl ?_
  have hfo := hf
  refine sq.op rfl rfl (Does.appendS (bs := bs ++ (uvar s.data.toList.length)) (x := s) appByte ⟨.string, by kernel_rfl, fun _ q => by cases q⟩ hf (nil_sub h2 []) R_u  rfl rfl (by simp only [List.length_append]; omega) (by simp only [List.length_append]; omega) rfl) ?_
  rintro v8 h5 n6 ⟨R_u, _, hB9⟩ s7 hn2 hf
  have hs := hs.own B_u hf0 s7
  have B_u : ∀ c ∈ blkOf v8, c ∈ (blkOf (.slice a bs.length cp)) ∨ n ≤ c := fun c hc => (hB9 c hc).elim (B_u c) (fun q => .inr (q ▸ hn))
  refine sq.w ?_
  obtain ⟨a10, cp11, rfl⟩ := R_u.slice
  have hn := Nat.le_trans hn hn2
  refine sq.c (v := .slice a10 ((bs ++ (uvar s.data.toList.length)) ++ (s).data.toList).length cp11) rfl rfl rfl rfl ?_
  refine sq.e ?_
  refine AWp.ret ?_
  refine ⟨rfl, [.slice a10 ((bs ++ (uvar s.data.toList.length)) ++ (s).data.toList).length cp11], rfl, .slice a10 ((bs ++ (uvar s.data.toList.length)) ++ (s).data.toList).length cp11, rfl, hs, hn, ?_⟩
  rw [htx, ← List.append_assoc]
  exact ⟨R_u, B_u⟩
theorem f28_spec {h : Heap} {n : Nat} {a : Option Addr} {cp : Nat} (ls : List Lab) (hl : IsRow encLab h (.slice a ls.length cp) ls) (hlen : ls.length ≤ 500) (hsz : ∀ x ∈ ls, x.1.data.toList.length < 5000 ∧ x.2.data.toList.length < 5000) :
    Tells Tryz.prog 28 [.slice a (ls.length) cp] h n (.string ⟨(keyB ls).toArray⟩) := by
  refine Makes.tells (Makes.free fun hf => ?_)
  have hs : SubBut h h ([]) := .refl _ _
  have hn : n ≤ n := Nat.le_refl _
  have hf0 := hf
  refine Makes.of_bodyV (args := [.slice a (ls.length) cp]) (vs := [.slice a (ls.length) cp, undef, undef, undef, undef, undef, undef, undef, undef, undef, undef, undef, undef, undef, undef, undef, undef, undef, undef, undef, undef, undef]) Tryz.func28 rfl rfl ?_
  refine AWp.seq (AWp.rowV (l := _) pok ?_)
  refine sq.c (v := .string (⟨#[]⟩)) rfl rfl rfl rfl ?_
  refine sq.e (AWp.seq (AWp.rowV (l := _) pok ?_))
  refine sq.c (v := .slice none (0) (0)) rfl rfl rfl rfl ?_
  refine sq.e (AWp.seq (AWp.seq (AWp.rowV (l := _) pok ?_)))
  refine sq.c (v := .slice a (ls.length) cp) rfl rfl rfl rfl ?_
  refine sq.c (v := .int .i64 (((ls.length : Nat) : Int))) rfl rfl (by kernel_rfl) rfl ?_
  refine sq.c (v := .int .i64 (0)) rfl rfl rfl rfl ?_
  refine sq.e (AWp.block ?_)
  refine AWp.loopV (fun d vs h2 n3 => ∃ (i : Int) (zs : List UInt8) (a_b : Option Addr) (cp_b : Nat), d = ((ls.length : Nat) - i + 1).toNat ∧ SubBut h h2 ([]) ∧ n ≤ n3 ∧ Free h2 n3 ∧ OwnRow encByte 5 (Trie.nil : Heap) h2 (.slice a_b (zs).length cp_b) (zs) ∧ (∀ c ∈ blkOf (.slice a_b (zs).length cp_b), c ∈ [] ∨ n ≤ c) ∧ (0 ≤ i) ∧ (i ≤ (ls.length : Nat)) ∧ (zs = keyB (ls.take i.toNat)) ∧ ∃ y1 : Nat → Value, vs = [.slice a (ls.length) cp, undef, .string (⟨#[]⟩), .slice a_b (zs.length) cp_b, undef, (y1 5), .slice a (ls.length) cp, .int .i64 (((ls.length : Nat) : Int)), .int .i64 (i), (y1 9), (y1 10), (y1 11), (y1 12), (y1 13), (y1 14), (y1 15), (y1 16), (y1 17), (y1 18), (y1 19), undef, undef]) (((ls.length : Nat) - (0 : Int) + 1).toNat) ⟨0, [], none, 0, rfl, hs, hn, hf, OwnRow.nil, (by simp [blkOf]), (by omega), (by omega), (rfl), getV [undef, undef, undef, undef, undef, undef, undef, undef, undef, undef, undef, undef, undef, undef, undef, undef, undef, undef, undef, undef], rfl⟩ ?_
  rintro d vs h2 n3 ⟨i, zs, a_b, cp_b, rfl, hs, hn, hf, R_b, B_b, hi0, hi1, hq, y1, rfl⟩
  have hzl : zs.length ≤ 500 * 10100 := by
    rw [hq]
    refine Nat.le_trans (keyB_len _ fun x hx => hsz x (List.mem_of_mem_take hx)) (Nat.mul_le_mul_right _ ?_)
    rw [List.length_take]; omega
  refine AWp.seq (AWp.rowV (l := _) pok ?_)
  refine sq.c (v := .bool (decide (i < (((ls.length : Nat) : Int))))) rfl rfl rfl rfl ?_
  refine sq.e (AWp.seq ?_)
  by_cases c3_0 : i < (((ls.length : Nat) : Int))
  · rw [decide_eq_true c3_0]
    refine AWp.condT rfl rfl ?_
    refine AWp.skip (AWp.seq (AWp.block (AWp.seq (AWp.rowV (l := _) pok ?_))))
    have i10 : (0 : Int) ≤ (i : Int) := by omega
    obtain ⟨x11, hx_x11⟩ : ∃ x, (ls)[((i : Int)).toNat]? = some x := ⟨_, List.getElem?_eq_getElem (by omega)⟩
    have g_x11 := hsz x11 (List.mem_of_getElem? hx_x11)
    have gt_x11 := txt_len x11.1 (by omega)
    obtain ⟨b4, o5, cs_b4, ow_b4, ci_b4, ie9, hb6, hc7, hr8⟩ := IsRow.at (P := Tryz.prog) (t := 22) (e := 40) (k := .i64) (by kernel_rfl) (by kernel_rfl) (hl.keep hs) i10 hx_x11
    refine sq.c (v := .pointer (some ⟨b4, o5, none⟩)) rfl rfl ie9 rfl ?_
    refine sq.c (v := .agg #[.string (x11.1), .string (x11.2)]) rfl rfl (ldR (P := Tryz.prog) (t := 40) (k := 2) (xs := [.string (x11.1), .string (x11.2)]) (by kernel_rfl) (by kernel_rfl) hr8) rfl ?_
    have e_b4_n3 : b4 ≠ n3 := hf.ne hb6
    have d_b_n3 : ∀ c ∈ blkOf (.slice a_b (zs).length cp_b), c ≠ n3 := fun c hc e => R_b.ne' (hf _ (Nat.le_refl _)) c hc (List.mem_singleton.2 e)
    have z_n3 : h.get n3 = none := hf0 _ hn
    refine sq.op rfl rfl (Does.alloc (cs := [.string (⟨#[]⟩), .string (⟨#[]⟩)]) hf (z := .agg #[.string (⟨#[]⟩), .string (⟨#[]⟩)]) (by kernel_rfl) rfl) ?_
    rintro _ h13 n14 ⟨rfl, hb12⟩ s15 hn2 hf
    refine sq.w ?_
    have R_b := R_b.keep s15
    have hs := hs.trans s15
    have hn := Nat.le_trans hn hn2
    refine sq.op rfl rfl (Does.store (k := 2) (xs := [.string (x11.1), .string (x11.2)]) (cs' := [.string (x11.1), .string (x11.2)]) hf (by kernel_rfl) rfl rfl rfl hb12 rfl rfl (Nat.le_of_ble_eq_true rfl) rfl) ?_
    rintro _ h17 n18 ⟨rfl, hb16⟩ s19 hn2 hf
    refine sq.w0 ?_
    have R_b := R_b.but s19 (fun c hc hm => d_b_n3 c hc (List.mem_singleton.1 hm))
    have hs := hs.fresh z_n3 s19
    have hn := Nat.le_trans hn hn2
    refine sq.e ?_
    refine AWp.anyK pok [0, 1, 2, 4, 5, 3, 6, 7] (by kernel_rfl) (by kernel_rfl) rfl (fun x fr fr' h n hd _ q => ⟨hd ▸ q.1, q.2⟩) ?_
    refine dk.c (v := .slice a_b (zs.length) cp_b) rfl (by kernel_rfl) rfl rfl rfl rfl ?_
    refine dk.c (v := .pointer (some ⟨n3, 0, none⟩)) rfl (by kernel_rfl) rfl rfl (by kernel_rfl) rfl ?_
    refine dk.gB (v := .string (x11.1)) n3 rfl (by kernel_rfl) rfl rfl (fun _ q_ => (ld1 (P := Tryz.prog) (t := 9) (p := 0) (v := .string (x11.1)) (by kernel_rfl) (by kernel_rfl) (q_ _ hb16) rfl)) rfl ?_
    refine dk.c (v := .pointer (some ⟨n3, 1, none⟩)) rfl (by kernel_rfl) rfl rfl (by kernel_rfl) rfl ?_
    refine dk.gB (v := .string (x11.2)) n3 rfl (by kernel_rfl) rfl rfl (fun _ q_ => (ld1 (P := Tryz.prog) (t := 9) (p := 1) (v := .string (x11.2)) (by kernel_rfl) (by kernel_rfl) (q_ _ hb16) rfl)) rfl ?_
    have hfo := hf
    refine dk.k rfl (by kernel_rfl) rfl (CallsF.fn rfl (by kernel_rfl) rfl rfl) (f48_spec zs x11.1 R_b (by omega) (by omega)) (keepC (fun hm => d_b_n3 _ hm rfl) (keepC (fun hm => d_b_n3 _ hm rfl) keepN)) ?_
    rintro v20 h21 n22 ⟨R_p, hB_p⟩ s23 hn2 hf
    refine dk.w ?_
    have d_p_n3 : ∀ c ∈ blkOf v20, c ≠ n3 := fun c hc => (hB_p c hc).elim (fun q => d_b_n3 c q) (fun q e => by rw [e] at q; have := hfo _ q; rw [hb16] at this; cases this)
    have hs := hs.own B_b hf0 s23
    have B_p : ∀ c ∈ blkOf v20, c ∈ [] ∨ n ≤ c := fun c hc => (hB_p c hc).elim (B_b c) (fun q => .inr (Nat.le_trans hn q))
    have hb16 := s23 _ _ (fun hm => d_b_n3 _ hm rfl) hb16
    obtain ⟨a_p19, cp_p19, rfl⟩ := R_p.slice
    have hn := Nat.le_trans hn hn2
    have hfo := hf
    refine dk.k rfl (by kernel_rfl) rfl (CallsF.fn rfl (by kernel_rfl) rfl rfl) (f48_spec (zs ++ (txt x11.1)) x11.2 R_p (by rw [List.length_append]; omega) (by omega)) (keepC (fun hm => d_p_n3 _ hm rfl) (keepC (fun hm => d_p_n3 _ hm rfl) keepN)) ?_
    rintro v24 h25 n26 ⟨R_b, hB_b⟩ s27 hn2 hf
    refine dk.w ?_
    have d_b_n3 : ∀ c ∈ blkOf v24, c ≠ n3 := fun c hc => (hB_b c hc).elim (fun q => d_p_n3 c q) (fun q e => by rw [e] at q; have := hfo _ q; rw [hb16] at this; cases this)
    have hs := hs.own B_p hf0 s27
    have B_b : ∀ c ∈ blkOf v24, c ∈ [] ∨ n ≤ c := fun c hc => (hB_b c hc).elim (B_p c) (fun q => .inr (Nat.le_trans hn q))
    have hb16 := s27 _ _ (fun hm => d_p_n3 _ hm rfl) hb16
    obtain ⟨a_b23, cp_b23, rfl⟩ := R_b.slice
    have hn := Nat.le_trans hn hn2
    refine dk.c (v := .slice a_b23 ((zs ++ (txt x11.1)) ++ (txt x11.2)).length cp_b23) rfl (by kernel_rfl) rfl rfl rfl rfl ?_
    refine dk.e (AWp.rowV (l := _) pok ?_)
    refine sq.c (v := .int .i64 (i + 1)) rfl rfl (okI (wrap_i64 (by omega) (by omega))) rfl ?_
    refine sq.c (v := .int .i64 (i + 1)) rfl rfl rfl rfl ?_
    refine sq.e ?_
    have hst := keyB_step hx_x11
    rw [show i.toNat + 1 = (i + 1).toNat by omega, ← hq, ← List.append_assoc] at hst
    refine ⟨_, _, rfl, by omega, i + 1, (zs ++ txt x11.1) ++ txt x11.2, a_b23, cp_b23, rfl, hs, hn, hf, R_b, B_b, (by omega), (by omega), (hst.symm), getV [undef, undef, undef, undef, undef, .pointer (some ⟨n3, 0, none⟩), undef, undef, undef, .bool true, .pointer (some ⟨b4, o5, none⟩), .agg #[.string (x11.1), .string (x11.2)], .slice a_b (zs.length) cp_b, .pointer (some ⟨n3, 0, none⟩), .string (x11.1), .slice a_p19 (zs ++ (txt x11.1)).length cp_p19, .pointer (some ⟨n3, 1, none⟩), .string (x11.2), .slice a_b23 ((zs ++ (txt x11.1)) ++ (txt x11.2)).length cp_b23, .int .i64 (i + 1)], rfl⟩
  · rw [decide_eq_false c3_0]
    refine AWp.condF rfl rfl ?_
    refine AWp.exit ?_
    refine AWp.seq (AWp.rowV (l := _) pok ?_)
    refine sq.c (v := .slice a_b (zs.length) cp_b) rfl rfl rfl rfl ?_
    refine sq.c (v := .string (⟨(zs).toArray⟩)) rfl rfl (strOf_row (P := Tryz.prog) (e := 5) (by kernel_rfl) (by kernel_rfl) (by kernel_rfl) (by kernel_rfl) R_b.is) rfl ?_
    refine sq.c (v := .string (⟨(zs).toArray⟩)) rfl rfl rfl rfl ?_
    refine sq.e ?_
    refine AWp.ret ?_
    refine ⟨rfl, [.string (⟨(zs).toArray⟩)], rfl, .string (⟨(zs).toArray⟩), rfl, hs, hn, ?_⟩
    rw [show i.toNat = ls.length by omega, List.take_length] at hq
    rw [hq]
def rdU : List UInt8 → Nat → Except Nat (Nat × Nat)
  | [], _ => .error 8
  | b :: r, i => if i = 9 ∧ 1 < b.toNat then .error 4 else if b.toNat < 128 then .ok (b.toNat * 128 ^ i, 1) else
      match rdU r (i + 1) with
      | .ok (n, k) => .ok ((b.toNat - 128) * 128 ^ i + n, k + 1)
      | .error e => .error e
def rdN (s : ByteArray) (at_ : Int) : Except Nat (Nat × Nat) := rdU (s.data.toList.drop at_.toNat) 0
theorem or_add {a b i : Nat} (h : a < 128 ^ i) : a ||| b * 128 ^ i = a + b * 128 ^ i := by
  have e : (128 : Nat) ^ i = 2 ^ (7 * i) := by rw [show (128 : Nat) = 2 ^ 7 from rfl, ← Nat.pow_mul]
  rw [e] at h ⊢
  rw [Nat.or_comm, Nat.mul_comm b, ← Nat.two_pow_add_eq_or_of_lt h, Nat.add_comm]
theorem or_u64 {a b : Int} (ha : 0 ≤ a) (ha' : a < 18446744073709551616) (hb : 0 ≤ b) (hb' : b < 18446744073709551616) : IntKind.u64.wrap ((BitVec.ofInt IntKind.u64.bits a ||| BitVec.ofInt IntKind.u64.bits b).toNat) = ((a.toNat ||| b.toNat : Nat) : Int) := by
  have e : ∀ x : Int, 0 ≤ x → x < 18446744073709551616 → (BitVec.ofInt IntKind.u64.bits x).toNat = x.toNat := by
    intro x h0 h1
    show (BitVec.ofInt 64 x).toNat = _
    rw [BitVec.toNat_ofInt]
    congr 1
    omega
  rw [BitVec.toNat_or, e a ha ha', e b hb hb']
  refine wrap_u64 (by omega) ?_
  have : a.toNat ||| b.toNat < 2 ^ 64 := Nat.or_lt_two_pow (by omega) (by omega)
  omega
def p128 (i : Int) : Int := 128 ^ i.toNat
theorem p128_le {i : Int} (h0 : 0 ≤ i) (h9 : i ≤ 9) : p128 i ≤ 9223372036854775808 := by
  have h : ∀ k, k ≤ 9 → (128 : Int) ^ k ≤ 9223372036854775808 := by decide +kernel
  exact h _ (by omega)
theorem p128_pos (i : Int) : 0 < p128 i := Int.pow_pos (by decide)
theorem p128_le8 {i : Int} (h0 : 0 ≤ i) (h9 : i ≤ 8) : p128 i ≤ 72057594037927936 := by
  have h : ∀ k, k ≤ 8 → (128 : Int) ^ k ≤ 72057594037927936 := by decide +kernel
  exact h _ (by omega)
theorem p128_succ {i : Int} (h0 : 0 ≤ i) : p128 (i + 1) = p128 i * 128 := by
  unfold p128
  rw [show (i + 1).toNat = i.toNat + 1 by omega, Int.pow_succ]
theorem add_fits {b i : Int} (h0 : 0 ≤ i) (h9 : i ≤ 9) (hb0 : 0 ≤ b) (hb : b < 128) (hb9 : i = 9 → b ≤ 1) : b * p128 i < 18446744073709551616 ∧ 0 ≤ b * p128 i := by
  have hp := p128_pos i
  refine ⟨?_, Int.mul_nonneg hb0 (by omega)⟩
  by_cases h : i = 9
  · have := p128_le h0 h9
    have h1 : b * p128 i ≤ 1 * p128 i := Int.mul_le_mul_of_nonneg_right (hb9 h) (by omega)
    omega
  · have := p128_le8 h0 (by omega)
    have h1 : b * p128 i ≤ 127 * p128 i := Int.mul_le_mul_of_nonneg_right (by omega) (by omega)
    omega
theorem shl_seven {b i : Int} (h0 : 0 ≤ i) (h9 : i ≤ 9) (hb0 : 0 ≤ b) (hb : b < 128) (hb9 : i = 9 → b ≤ 1) {t : TypeId} {cx cy : Bool} : binE Tryz.prog .shl t cx cy (.int .u64 b) (.int .i64 (7 * i)) = some (.int .u64 (b * p128 i)) := by
  have e : (2 : Int) ^ (min (7 * i).toNat IntKind.u64.bits) = p128 i := by
    have hm : min (7 * i).toNat IntKind.u64.bits = 7 * i.toNat := by
      show min (7 * i).toNat 64 = _
      omega
    rw [hm, Int.pow_mul]
    rfl
  obtain ⟨h1, h2⟩ := add_fits h0 h9 hb0 hb hb9
  show (if (7 * i : Int) < 0 then none else some (Value.int .u64 (IntKind.u64.wrap (b * 2 ^ (min (7 * i).toNat IntKind.u64.bits))))) = _
  rw [if_neg (by omega), e, wrap_u64 h2 h1]
theorem mul_nat {b i : Int} (hb : 0 ≤ b) : ∃ m : Nat, b * p128 i = (m : Int) ∧ b.toNat * 128 ^ i.toNat = m := by
  refine ⟨_, ?_, rfl⟩
  rw [Int.natCast_mul, Int.natCast_pow, show ((b.toNat : Nat) : Int) = b by omega]
  rfl
theorem p128_nat (i : Int) : p128 i = ((128 ^ i.toNat : Nat) : Int) := by rw [Int.natCast_pow]; rfl
theorem or_seven {a b i : Int} (h0 : 0 ≤ i) (h9 : i ≤ 9) (ha0 : 0 ≤ a) (ha : a < p128 i) (hb0 : 0 ≤ b) (hb : b < 128) (hb9 : i = 9 → b ≤ 1) {t : TypeId} {cx cy : Bool} : binE Tryz.prog .or t cx cy (.int .u64 a) (.int .u64 (b * p128 i)) = some (.int .u64 (a + b * p128 i)) := by
  obtain ⟨h1, h2⟩ := add_fits h0 h9 hb0 hb hb9
  have h3 := p128_le h0 h9
  show some (Value.int .u64 (IntKind.u64.wrap _)) = _
  rw [or_u64 ha0 (by omega) h2 h1]
  obtain ⟨m, e1, e2⟩ := mul_nat (b := b) (i := i) hb0
  rw [e1, Int.toNat_natCast, ← e2, or_add (by rw [p128_nat] at ha; generalize 128 ^ i.toNat = q at *; omega), e2]
  congr 2
  omega
theorem clr_hi {b : Int} (h0 : 128 ≤ b) (h1 : b < 256) {t : TypeId} {cx cy : Bool} : binE Tryz.prog .andNot t cx cy (.int .u64 b) (.int .u64 128) = some (.int .u64 (b - 128)) := by
  have hc : ∀ n, n < 256 → 128 ≤ n → IntKind.u64.wrap ((BitVec.ofInt IntKind.u64.bits (n : Nat) &&& ~~~BitVec.ofInt IntKind.u64.bits 128).toNat) = (n : Int) - 128 := by
    have : ((List.range 256).all fun n => decide (n < 128) || IntKind.u64.wrap ((BitVec.ofInt IntKind.u64.bits (n : Nat) &&& ~~~BitVec.ofInt IntKind.u64.bits 128).toNat) == (n : Int) - 128) = true := by kernel_rfl
    intro n hn hm
    have h := List.all_eq_true.1 this n (List.mem_range.2 hn)
    rw [decide_eq_false (by omega), Bool.false_or] at h
    simpa using h
  have := hc b.toNat (by omega) (by omega)
  rw [show ((b.toNat : Nat) : Int) = b by omega] at this
  show some (Value.int .u64 (IntKind.u64.wrap _)) = _
  rw [this]
def shR (r : Except Nat (Nat × Nat)) (a i : Nat) : Except Nat (Nat × Nat) := match r with
  | .ok (n, k) => .ok (a + n, i + k)
  | .error e => .error e
def exN (r : Except Nat (Nat × Nat)) : Int := match r with
  | .ok (n, _) => n
  | .error _ => 0
def exK (r : Except Nat (Nat × Nat)) : Int := match r with
  | .ok (_, k) => k
  | .error _ => 0
def exX (r : Except Nat (Nat × Nat)) (at_ : Int) : Int := match r with
  | .ok (_, k) => at_ + k
  | .error _ => 0
def exE (r : Except Nat (Nat × Nat)) : Int := match r with
  | .ok _ => 0
  | .error e => e
theorem rd_end {s : ByteArray} {j : Int} (h : j = (s.data.toList.length : Nat)) (i : Nat) : rdU (s.data.toList.drop j.toNat) i = .error 8 := by
  rw [List.drop_eq_nil_of_le (by omega)]; rfl
theorem rd_cons {s : ByteArray} {j : Int} (h0 : 0 ≤ j) (h1 : j < (s.data.toList.length : Nat)) : ∃ b : UInt8, bt s j = b.toNat ∧ s.data.toList.drop j.toNat = b :: s.data.toList.drop (j + 1).toNat := by
  refine ⟨s.data.toList[j.toNat]'(by omega), ?_, ?_⟩
  · unfold bt
    rw [List.getElem?_eq_getElem (by omega)]
    rfl
  · rw [List.drop_eq_getElem_cons (by omega), show (j + 1).toNat = j.toNat + 1 by omega]
theorem shR_end {s : ByteArray} {j : Int} (h : j = (s.data.toList.length : Nat)) (a i : Nat) : shR (rdU (s.data.toList.drop j.toNat) i) a i = .error 8 := by rw [rd_end h]; rfl
theorem shR_bad {s : ByteArray} {j i : Int} (h0 : 0 ≤ j) (h1 : j < (s.data.toList.length : Nat)) (hi : i = 9) (hb : 1 < bt s j) (a : Nat) : shR (rdU (s.data.toList.drop j.toNat) i.toNat) a i.toNat = .error 4 := by
  obtain ⟨b, e1, e2⟩ := rd_cons h0 h1
  rw [e2, rdU, if_pos ⟨by omega, by omega⟩]
  rfl
theorem shR_last {s : ByteArray} {j i a : Int} (h0 : 0 ≤ j) (h1 : j < (s.data.toList.length : Nat)) (hi : 0 ≤ i) (ha : 0 ≤ a) (hb : bt s j < 128) (h9 : i = 9 → ¬ 1 < bt s j) : shR (rdU (s.data.toList.drop j.toNat) i.toNat) a.toNat i.toNat = .ok ((a + bt s j * p128 i).toNat, (i + 1).toNat) := by
  obtain ⟨b, e1, e2⟩ := rd_cons h0 h1
  obtain ⟨m, h2, h3⟩ := mul_nat (b := bt s j) (i := i) (by omega)
  rw [show (bt s j).toNat = b.toNat by omega] at h3
  rw [e2, rdU, if_neg (fun q => h9 (by omega) (by omega)), if_pos (by omega)]
  show Except.ok (_, _) = _
  rw [h2, h3]
  congr 2
  · omega
  · omega
theorem shR_more {s : ByteArray} {j i a : Int} (h0 : 0 ≤ j) (h1 : j < (s.data.toList.length : Nat)) (hi : 0 ≤ i) (ha : 0 ≤ a) (hb : 128 ≤ bt s j) (h9 : i ≠ 9) : shR (rdU (s.data.toList.drop j.toNat) i.toNat) a.toNat i.toNat = shR (rdU (s.data.toList.drop (j + 1).toNat) (i + 1).toNat) (a + (bt s j - 128) * p128 i).toNat (i + 1).toNat := by
  obtain ⟨b, e1, e2⟩ := rd_cons h0 h1
  obtain ⟨m, h2, h3⟩ := mul_nat (b := bt s j - 128) (i := i) (by omega)
  rw [show (bt s j - 128).toNat = b.toNat - 128 by omega] at h3
  rw [e2, rdU, if_neg (fun q => h9 (by omega)), if_neg (by omega), show i.toNat + 1 = (i + 1).toNat by omega]
  cases rdU (s.data.toList.drop (j + 1).toNat) (i + 1).toNat with
  | error e => rfl
  | ok q =>
    obtain ⟨n, k⟩ := q
    show Except.ok (_, _) = Except.ok (_, _)
    rw [h2, h3]
    congr 2
    · omega
    · omega
theorem shR_zero (r : Except Nat (Nat × Nat)) : r = shR r 0 0 := by
  cases r with
  | error e => rfl
  | ok q => obtain ⟨n, k⟩ := q; simp [shR]
theorem tup3 {a a' b b' c c' : Int} (h1 : a = a') (h2 : b = b') (h3 : c = c') : Value.tuple #[.int .u64 a, .int .i64 b, .int .i64 c] = .tuple #[.int .u64 a', .int .i64 b', .int .i64 c'] := by rw [h1, h2, h3]
theorem f89_spec {h : Heap} {n : Nat} (s : ByteArray) (p : Int) (hp0 : 0 ≤ p) (hp1 : p ≤ (s.data.toList.length : Nat)) (hls : s.data.toList.length < 9223372036854775807) :
    Tells Tryz.prog 89 [.string (s), .int .i64 (p)] h n (.tuple #[.int .u64 (exN (rdN s p)), .int .i64 (exX (rdN s p) p), .int .i64 (exE (rdN s p))]) := by
  refine Makes.tells (Makes.free fun hf => ?_)
  have hs : SubBut h h ([]) := .refl _ _
  have hn : n ≤ n := Nat.le_refl _
  have hf0 := hf
  refine Makes.of_bodyV (args := [.string (s), .int .i64 (p)]) (vs := [.string (s), .int .i64 (p), undef, undef, undef, undef, undef, undef, undef, undef, undef, undef, undef, undef, undef, undef, undef, undef, undef, undef, undef, undef, undef, undef, undef, undef, undef, undef, undef, undef, undef, undef, undef, undef, undef, undef, undef, undef, undef, undef, undef, undef, undef, undef, undef, undef, undef, undef, undef, undef, undef, undef, undef, undef, undef, undef, undef, undef, undef]) Tryz.func89 rfl rfl ?_
  refine AWp.seq (AWp.rowV (l := _) pok ?_)
  refine sq.c (v := .int .u64 (0)) rfl rfl rfl rfl ?_
  refine sq.c (v := .int .i64 (0)) rfl rfl rfl rfl ?_
  refine sq.c (v := .int .i64 (0)) rfl rfl rfl rfl ?_
  refine sq.e ?_
  refine AWp.scope ?_
  refine AWp.seq (AWp.seq (AWp.rowV (l := _) pok ?_))
  refine sq.c (v := .int .i64 (p)) rfl rfl rfl rfl ?_
  refine sq.c (v := .bool (decide (p < (0 : Int)))) rfl rfl rfl rfl ?_
  refine sq.c (v := .bool (decide (p < (0 : Int)))) rfl rfl rfl rfl ?_
  by_cases c1_1 : p < (0 : Int)
  · exfalso
    omega
  · rw [decide_eq_false c1_1]
    refine sq.c (v := .int .i64 (p)) (wantT (g := 2) (d := 11) rfl rfl rfl) rfl rfl rfl ?_
    refine sq.c (v := .string (s)) (wantT (g := 2) (d := 11) rfl rfl rfl) rfl rfl rfl ?_
    refine sq.c (v := .int .i64 ((((s).data.toList.length : Nat) : Int))) (wantT (g := 2) (d := 11) rfl rfl rfl) rfl (by kernel_rfl) rfl ?_
    refine sq.c (v := .bool (decide (((((s).data.toList.length : Nat) : Int)) < p))) (wantT (g := 2) (d := 11) rfl rfl rfl) rfl rfl rfl ?_
    refine sq.c (v := .bool (decide (((((s).data.toList.length : Nat) : Int)) < p))) rfl rfl rfl rfl ?_
    refine sq.e ?_
    by_cases c1_6 : ((((s).data.toList.length : Nat) : Int)) < p
    · exfalso
      omega
    · rw [decide_eq_false c1_6]
      refine AWp.condF rfl rfl ?_
      refine AWp.skip (AWp.seq (AWp.rowV (l := _) pok ?_))
      refine sq.c (v := .int .i64 (0)) rfl rfl rfl rfl ?_
      refine sq.e (AWp.seq ?_)
      refine AWp.label ?_
      refine AWp.seq (AWp.block ?_)
      refine AWp.loopV (fun d vs h' n2 => ∃ (i a : Int), d = (10 - i).toNat ∧ h = h' ∧ n ≤ n2 ∧ Free h n2 ∧ (0 ≤ i) ∧ (i ≤ 9) ∧ (p + i ≤ (s.data.toList.length : Nat)) ∧ (0 ≤ a) ∧ (a < p128 i) ∧ (rdN s p = shR (rdU (s.data.toList.drop (p + i).toNat) i.toNat) a.toNat i.toNat) ∧ ∃ y1 : Nat → Value, vs = [.string (s), .int .i64 (p), undef, undef, .int .u64 (a), (y1 5), (y1 6), .int .i64 (i), (y1 8), .int .i64 (p), .bool false, .bool false, .int .i64 (p), .string (s), .int .i64 ((((s).data.toList.length : Nat) : Int)), .bool false, .bool false, (y1 17), (y1 18), (y1 19), (y1 20), (y1 21), (y1 22), (y1 23), (y1 24), (y1 25), (y1 26), (y1 27), (y1 28), (y1 29), (y1 30), (y1 31), (y1 32), (y1 33), (y1 34), (y1 35), (y1 36), (y1 37), (y1 38), (y1 39), (y1 40), (y1 41), (y1 42), (y1 43), (y1 44), (y1 45), (y1 46), (y1 47), (y1 48), (y1 49), (y1 50), (y1 51), (y1 52), (y1 53), undef, undef, undef, undef, undef]) (10) ⟨0, 0, rfl, rfl, hn, hf, (by omega), (by omega), (by omega), (by omega), (by decide), (by rw [Int.add_zero]; exact shR_zero _), getV [undef, undef, undef, undef, undef, .int .i64 (0), .int .i64 (0), undef, undef, undef, undef, undef, undef, undef, undef, undef, undef, undef, undef, undef, undef, undef, undef, undef, undef, undef, undef, undef, undef, undef, undef, undef, undef, undef, undef, undef, undef, undef, undef, undef, undef, undef, undef, undef, undef, undef, undef, undef, undef, undef, undef, undef, undef, undef], rfl⟩ ?_
      rintro d vs h' n2 ⟨i, a, rfl, rfl, hn, hf, hi0, hi9, hpi, ha0, ha1, hq, y1, rfl⟩
      have hbt := bt_lt s (p + i)
      have hpw := p128_le hi0 hi9
      refine AWp.seq (AWp.block (AWp.seq (AWp.seq (AWp.rowV (l := _) pok ?_))))
      refine sq.c (v := .int .i64 (p)) rfl rfl rfl rfl ?_
      refine sq.c (v := .int .i64 (i)) rfl rfl rfl rfl ?_
      refine sq.c (v := .int .i64 (p + i)) rfl rfl (okI (wrap_i64 (by omega) (by omega))) rfl ?_
      refine sq.c (v := .string (s)) rfl rfl rfl rfl ?_
      refine sq.c (v := .int .i64 ((((s).data.toList.length : Nat) : Int))) rfl rfl (by kernel_rfl) rfl ?_
      refine sq.c (v := .bool (decide ((p + i) = ((((s).data.toList.length : Nat) : Int))))) rfl rfl rfl rfl ?_
      refine sq.e ?_
      by_cases c5_5 : (p + i) = ((((s).data.toList.length : Nat) : Int))
      · rw [decide_eq_true c5_5]
        refine AWp.condT rfl rfl ?_
        refine AWp.seq (AWp.rowV (l := _) pok ?_)
        refine sq.c (v := .int .u64 (0)) rfl rfl rfl rfl ?_
        refine sq.c (v := .int .i64 (0)) rfl rfl rfl rfl ?_
        refine sq.c (v := .int .i64 (8)) rfl rfl rfl rfl ?_
        refine sq.e ?_
        refine AWp.ret ?_
        refine ⟨rfl, [.int .u64 (0), .int .i64 (0), .int .i64 (8)], rfl, .tuple #[.int .u64 (0), .int .i64 (0), .int .i64 (8)], rfl, hs, hn, ?_⟩
        rw [hq, shR_end c5_5]
        rfl
      · rw [decide_eq_false c5_5]
        refine AWp.condF rfl rfl ?_
        refine AWp.skip (AWp.seq (AWp.rowV (l := _) pok ?_))
        refine sq.c (v := .string (s)) rfl rfl rfl rfl ?_
        refine sq.c (v := .int .i64 (p)) rfl rfl rfl rfl ?_
        refine sq.c (v := .int .i64 (i)) rfl rfl rfl rfl ?_
        refine sq.c (v := .int .i64 (p + i)) rfl rfl (okI (wrap_i64 (by omega) (by omega))) rfl ?_
        refine sq.c (v := .int .u8 (bt (s) (p + i))) rfl rfl (index_str (P := Tryz.prog) (t := 9) (s := s) (i := p + i) (k := .i64) (by kernel_rfl) (by omega) (by omega)) rfl ?_
        refine sq.c (v := .int .u64 (bt (s) (p + i))) rfl rfl (Eq.trans (b := some (.int .u64 (IntKind.u64.wrap (bt (s) (p + i))))) (by kernel_rfl) (okI (wrap_u64 (by omega) (by omega)))) rfl ?_
        refine sq.c (v := .int .u64 (bt (s) (p + i))) rfl rfl rfl rfl ?_
        refine sq.e (AWp.seq (AWp.block (AWp.seq (AWp.rowV (l := _) pok ?_))))
        refine sq.c (v := .int .i64 (i)) rfl rfl rfl rfl ?_
        refine sq.c (v := .bool (decide (i = (9 : Int)))) rfl rfl rfl rfl ?_
        refine sq.c (v := .bool (decide (i = (9 : Int)))) rfl rfl rfl rfl ?_
        by_cases c8_1 : i = (9 : Int)
        · rw [decide_eq_true c8_1]
          refine sq.c (v := .int .u64 (bt (s) (p + i))) (wantT (g := 2) (d := 34) rfl rfl rfl) rfl rfl rfl ?_
          refine sq.c (v := .bool (decide ((1 : Int) < (bt (s) (p + i))))) (wantT (g := 2) (d := 34) rfl rfl rfl) rfl rfl rfl ?_
          refine sq.c (v := .bool (decide ((1 : Int) < (bt (s) (p + i))))) rfl rfl rfl rfl ?_
          refine sq.c (v := .bool (decide ((1 : Int) < (bt (s) (p + i))))) rfl rfl rfl rfl ?_
          refine sq.e ?_
          by_cases c8_4 : (1 : Int) < (bt (s) (p + i))
          · rw [decide_eq_true c8_4]
            refine AWp.condT rfl rfl ?_
            refine AWp.seq (AWp.rowV (l := _) pok ?_)
            refine sq.c (v := .int .u64 (0)) rfl rfl rfl rfl ?_
            refine sq.c (v := .int .i64 (0)) rfl rfl rfl rfl ?_
            refine sq.c (v := .int .i64 (4)) rfl rfl rfl rfl ?_
            refine sq.e ?_
            refine AWp.ret ?_
            refine ⟨rfl, [.int .u64 (0), .int .i64 (0), .int .i64 (4)], rfl, .tuple #[.int .u64 (0), .int .i64 (0), .int .i64 (4)], rfl, hs, hn, ?_⟩
            rw [hq, shR_bad (by omega) (by omega) c8_1 c8_4]
            rfl
          · rw [decide_eq_false c8_4]
            refine AWp.condF rfl rfl ?_
            refine AWp.seq (AWp.rowV (l := _) pok ?_)
            refine sq.c (v := .int .u64 (bt (s) (p + i))) rfl rfl rfl rfl ?_
            refine sq.c (v := .bool (decide ((bt (s) (p + i)) < (128 : Int)))) rfl rfl rfl rfl ?_
            refine sq.c (v := .bool (decide ((bt (s) (p + i)) < (128 : Int)))) rfl rfl rfl rfl ?_
            refine sq.e ?_
            by_cases c10_1 : (bt (s) (p + i)) < (128 : Int)
            · rw [decide_eq_true c10_1]
              refine AWp.condT rfl rfl ?_
              refine AWp.seq (AWp.rowV (l := _) pok ?_)
              refine sq.c (v := .int .u64 (a)) rfl rfl rfl rfl ?_
              refine sq.c (v := .int .u64 (bt (s) (p + i))) rfl rfl rfl rfl ?_
              refine sq.c (v := .int .i64 (i)) rfl rfl rfl rfl ?_
              refine sq.c (v := .int .i64 (7 * i)) rfl rfl (okI (wrap_i64 (by omega) (by omega))) rfl ?_
              refine sq.c (v := .int .u64 ((bt (s) (p + i)) * p128 i)) rfl rfl (shl_seven (t := 0) (cx := false) (cy := false) (by omega) (by omega) (by omega) (by omega) (by omega)) rfl ?_
              refine sq.c (v := .int .u64 (a + (bt (s) (p + i)) * p128 i)) rfl rfl (or_seven (t := 0) (cx := false) (cy := false) (by omega) (by omega) (by omega) (by omega) (by omega) (by omega) (by omega)) rfl ?_
              refine sq.c (v := .int .u64 (a + (bt (s) (p + i)) * p128 i)) rfl rfl rfl rfl ?_
              refine sq.e ?_
              refine AWp.exit ?_
              refine AWp.seq (AWp.rowV (l := _) pok ?_)
              refine sq.c (v := .int .u64 (a + (bt (s) (p + i)) * p128 i)) rfl rfl rfl rfl ?_
              refine sq.c (v := .int .i64 (p)) rfl rfl rfl rfl ?_
              refine sq.c (v := .int .i64 (i)) rfl rfl rfl rfl ?_
              refine sq.c (v := .int .i64 (p + i)) rfl rfl (okI (wrap_i64 (by omega) (by omega))) rfl ?_
              refine sq.c (v := .int .i64 ((p + i) + 1)) rfl rfl (okI (wrap_i64 (by omega) (by omega))) rfl ?_
              refine sq.c (v := .int .u64 (a + (bt (s) (p + i)) * p128 i)) rfl rfl rfl rfl ?_
              refine sq.c (v := .int .i64 ((p + i) + 1)) rfl rfl rfl rfl ?_
              refine sq.c (v := .int .i64 (0)) rfl rfl rfl rfl ?_
              refine sq.e ?_
              refine AWp.ret ?_
              refine ⟨rfl, [.int .u64 (a + (bt (s) (p + i)) * p128 i), .int .i64 ((p + i) + 1), .int .i64 (0)], rfl, .tuple #[.int .u64 (a + (bt (s) (p + i)) * p128 i), .int .i64 ((p + i) + 1), .int .i64 (0)], rfl, hs, hn, ?_⟩
              rw [hq, shR_last (by omega) (by omega) hi0 ha0 c10_1 (by omega)]
              obtain ⟨m, hm, _⟩ := mul_nat (b := bt s (p + i)) (i := i) (by omega)
              exact tup3 (by show _ = ((_ : Nat) : Int); omega) (by show _ = p + ((_ : Nat) : Int); omega) rfl
            · exfalso
              omega
        · rw [decide_eq_false c8_1]
          refine sq.s (wantF (g := 2) (d := 34) rfl rfl rfl) rfl ?_
          refine sq.s (wantF (g := 2) (d := 34) rfl rfl rfl) rfl ?_
          refine sq.c (v := .bool false) rfl rfl rfl rfl ?_
          refine sq.c (v := .bool false) rfl rfl rfl rfl ?_
          refine sq.e ?_
          refine AWp.condF rfl rfl ?_
          refine AWp.seq (AWp.rowV (l := _) pok ?_)
          refine sq.c (v := .int .u64 (bt (s) (p + i))) rfl rfl rfl rfl ?_
          refine sq.c (v := .bool (decide ((bt (s) (p + i)) < (128 : Int)))) rfl rfl rfl rfl ?_
          refine sq.c (v := .bool (decide ((bt (s) (p + i)) < (128 : Int)))) rfl rfl rfl rfl ?_
          refine sq.e ?_
          by_cases c10_1 : (bt (s) (p + i)) < (128 : Int)
          · rw [decide_eq_true c10_1]
            refine AWp.condT rfl rfl ?_
            refine AWp.seq (AWp.rowV (l := _) pok ?_)
            refine sq.c (v := .int .u64 (a)) rfl rfl rfl rfl ?_
            refine sq.c (v := .int .u64 (bt (s) (p + i))) rfl rfl rfl rfl ?_
            refine sq.c (v := .int .i64 (i)) rfl rfl rfl rfl ?_
            refine sq.c (v := .int .i64 (7 * i)) rfl rfl (okI (wrap_i64 (by omega) (by omega))) rfl ?_
            refine sq.c (v := .int .u64 ((bt (s) (p + i)) * p128 i)) rfl rfl (shl_seven (t := 0) (cx := false) (cy := false) (by omega) (by omega) (by omega) (by omega) (by omega)) rfl ?_
            refine sq.c (v := .int .u64 (a + (bt (s) (p + i)) * p128 i)) rfl rfl (or_seven (t := 0) (cx := false) (cy := false) (by omega) (by omega) (by omega) (by omega) (by omega) (by omega) (by omega)) rfl ?_
            refine sq.c (v := .int .u64 (a + (bt (s) (p + i)) * p128 i)) rfl rfl rfl rfl ?_
            refine sq.e ?_
            refine AWp.exit ?_
            refine AWp.seq (AWp.rowV (l := _) pok ?_)
            refine sq.c (v := .int .u64 (a + (bt (s) (p + i)) * p128 i)) rfl rfl rfl rfl ?_
            refine sq.c (v := .int .i64 (p)) rfl rfl rfl rfl ?_
            refine sq.c (v := .int .i64 (i)) rfl rfl rfl rfl ?_
            refine sq.c (v := .int .i64 (p + i)) rfl rfl (okI (wrap_i64 (by omega) (by omega))) rfl ?_
            refine sq.c (v := .int .i64 ((p + i) + 1)) rfl rfl (okI (wrap_i64 (by omega) (by omega))) rfl ?_
            refine sq.c (v := .int .u64 (a + (bt (s) (p + i)) * p128 i)) rfl rfl rfl rfl ?_
            refine sq.c (v := .int .i64 ((p + i) + 1)) rfl rfl rfl rfl ?_
            refine sq.c (v := .int .i64 (0)) rfl rfl rfl rfl ?_
            refine sq.e ?_
            refine AWp.ret ?_
            refine ⟨rfl, [.int .u64 (a + (bt (s) (p + i)) * p128 i), .int .i64 ((p + i) + 1), .int .i64 (0)], rfl, .tuple #[.int .u64 (a + (bt (s) (p + i)) * p128 i), .int .i64 ((p + i) + 1), .int .i64 (0)], rfl, hs, hn, ?_⟩
            rw [hq, shR_last (by omega) (by omega) hi0 ha0 c10_1 (by omega)]
            obtain ⟨m, hm, _⟩ := mul_nat (b := bt s (p + i)) (i := i) (by omega)
            exact tup3 (by show _ = ((_ : Nat) : Int); omega) (by show _ = p + ((_ : Nat) : Int); omega) rfl
          · rw [decide_eq_false c10_1]
            refine AWp.condF rfl rfl ?_
            refine AWp.skip (AWp.rowV (l := _) pok ?_)
            refine sq.c (v := .int .u64 (a)) rfl rfl rfl rfl ?_
            refine sq.c (v := .int .u64 (bt (s) (p + i))) rfl rfl rfl rfl ?_
            refine sq.c (v := .int .u64 (bt (s) (p + i) - 128)) rfl rfl (clr_hi (t := 0) (cx := false) (cy := false) (by omega) (by omega)) rfl ?_
            refine sq.c (v := .int .i64 (i)) rfl rfl rfl rfl ?_
            refine sq.c (v := .int .i64 (7 * i)) rfl rfl (okI (wrap_i64 (by omega) (by omega))) rfl ?_
            refine sq.c (v := .int .u64 ((bt (s) (p + i) - 128) * p128 i)) rfl rfl (shl_seven (t := 0) (cx := false) (cy := false) (by omega) (by omega) (by omega) (by omega) (by omega)) rfl ?_
            refine sq.c (v := .int .u64 (a + (bt (s) (p + i) - 128) * p128 i)) rfl rfl (or_seven (t := 0) (cx := false) (cy := false) (by omega) (by omega) (by omega) (by omega) (by omega) (by omega) (by omega)) rfl ?_
            refine sq.c (v := .int .u64 (a + (bt (s) (p + i) - 128) * p128 i)) rfl rfl rfl rfl ?_
            refine sq.e (AWp.rowV (l := _) pok ?_)
            refine sq.c (v := .int .i64 (i)) rfl rfl rfl rfl ?_
            refine sq.c (v := .int .i64 (i + 1)) rfl rfl (okI (wrap_i64 (by omega) (by omega))) rfl ?_
            refine sq.c (v := .int .i64 (i + 1)) rfl rfl rfl rfl ?_
            refine sq.e ?_
            obtain ⟨m, hm, _⟩ := mul_nat (b := bt s (p + i) - 128) (i := i) (by omega)
            have hP := p128_pos i
            have hS := p128_succ hi0
            have hM : (bt s (p + i) - 128) * p128 i ≤ 127 * p128 i := Int.mul_le_mul_of_nonneg_right (by omega) (by omega)
            refine ⟨_, _, rfl, by omega, i + 1, a + (bt s (p + i) - 128) * p128 i, rfl, rfl, hn, hf, (by omega), (by omega), (by omega), (by omega), (by rw [hS]; omega), (by rw [hq, shR_more (by omega) (by omega) hi0 ha0 (by omega) (by omega), Int.add_assoc]), getV [undef, undef, undef, undef, undef, (y1 5), (y1 6), undef, .int .u64 (bt (s) (p + i)), undef, undef, undef, undef, undef, undef, undef, undef, .int .i64 (i), .int .i64 (i + 1), .int .i64 (p), .int .i64 (i), .int .i64 (p + i), .string (s), .int .i64 ((((s).data.toList.length : Nat) : Int)), .bool false, .string (s), .int .i64 (p), .int .i64 (i), .int .i64 (p + i), .int .u8 (bt (s) (p + i)), .int .u64 (bt (s) (p + i)), .bool false, .int .i64 (i), .bool false, .bool false, undef, undef, .bool false, .bool false, .int .u64 (bt (s) (p + i)), .bool false, (y1 41), (y1 42), (y1 43), (y1 44), (y1 45), (y1 46), .int .u64 (a), .int .u64 (bt (s) (p + i)), .int .u64 (bt (s) (p + i) - 128), .int .i64 (i), .int .i64 (7 * i), .int .u64 ((bt (s) (p + i) - 128) * p128 i), .int .u64 (a + (bt (s) (p + i) - 128) * p128 i)], rfl⟩
theorem rdU_k : ∀ (bs : List UInt8) (i n k : Nat), rdU bs i = .ok (n, k) → 0 < k ∧ k ≤ bs.length := by
  intro bs
  induction bs with
  | nil => intro i n k h; cases h
  | cons b r ih =>
    intro i n k h
    rw [rdU] at h
    split at h
    · cases h
    · split at h
      · cases h; simp
      · split at h
        · rename_i n' k' e
          cases h
          have := ih _ _ _ e
          simp only [List.length_cons]; omega
        · cases h
theorem exK_le {s : ByteArray} {p : Int} (h0 : 0 ≤ p) (h1 : p ≤ (s.data.toList.length : Nat)) : 0 ≤ exK (rdN s p) ∧ p + exK (rdN s p) ≤ (s.data.toList.length : Nat) := by
  cases e : rdN s p with
  | error e => exact ⟨Int.le_refl _, by show p + 0 ≤ _; omega⟩
  | ok q =>
    obtain ⟨n, k⟩ := q
    have := rdU_k _ _ _ _ e
    rw [List.length_drop] at this
    refine ⟨by show (0 : Int) ≤ (k : Nat); omega, ?_⟩
    show p + (k : Nat) ≤ _
    omega
theorem rdU_e : ∀ (bs : List UInt8) (i e : Nat), rdU bs i = .error e → e ≠ 0 := by
  intro bs
  induction bs with
  | nil => intro i e h; cases h; decide
  | cons b r ih =>
    intro i e h
    rw [rdU] at h
    split at h
    · cases h; decide
    · split at h
      · cases h
      · split at h
        · cases h
        · rename_i e' h'
          cases h
          exact ih _ _ h'
theorem ex_good {s : ByteArray} {p : Int} (h : exE (rdN s p) = 0) : exX (rdN s p) p = p + exK (rdN s p) := by
  cases e : rdN s p with
  | error e' => rw [e] at h; exact (rdU_e _ _ _ e (by simpa [exE] using h)).elim
  | ok q => rfl
def vrd (s : ByteArray) (p e most : Int) : Int × Int × Int :=
  if e = 0 then (if exE (rdN s p) = 0 then (if most < exN (rdN s p) then (0, p, 40) else (exN (rdN s p), exX (rdN s p) p, e)) else (0, p, exE (rdN s p))) else (0, p, e)
def raw (s : ByteArray) (p e n : Int) : ByteArray × Int × Int :=
  if e = 0 then (if ((s.data.toList.length : Nat) : Int) - p < n then (⟨#[]⟩, p, 8) else (sub s p (p + n), p + n, e)) else (⟨#[]⟩, p, e)
def txr (s : ByteArray) (p e most : Int) : ByteArray × Int × Int :=
  if e = 0 then (if (vrd s p e most).2.2 = 0 then (if ((s.data.toList.length : Nat) : Int) - (vrd s p e most).2.1 < (vrd s p e most).1 then (⟨#[]⟩, p, 8) else raw s (vrd s p e most).2.1 (vrd s p e most).2.2 (vrd s p e most).1) else (⟨#[]⟩, (vrd s p e most).2.1, (vrd s p e most).2.2)) else (⟨#[]⟩, p, e)
theorem exN_lt (s : ByteArray) (p : Int) : 0 ≤ exN (rdN s p) := by
  cases rdN s p with
  | error e => exact Int.le_refl _
  | ok q => show (0 : Int) ≤ (q.1 : Nat); omega
theorem vrd_at {s : ByteArray} {p e most : Int} (h0 : 0 ≤ p) (h1 : p ≤ (s.data.toList.length : Nat)) : 0 ≤ (vrd s p e most).2.1 ∧ (vrd s p e most).2.1 ≤ (s.data.toList.length : Nat) ∧ 0 ≤ (vrd s p e most).1 := by
  have h2 := exK_le (s := s) h0 h1
  have h3 := exN_lt s p
  unfold vrd
  split
  · split
    · rename_i he
      split
      · exact ⟨h0, h1, Int.le_refl _⟩
      · refine ⟨?_, ?_, h3⟩
        · show 0 ≤ exX (rdN s p) p; rw [ex_good he]; omega
        · show exX (rdN s p) p ≤ _; rw [ex_good he]; omega
    · exact ⟨h0, h1, Int.le_refl _⟩
  · exact ⟨h0, h1, Int.le_refl _⟩
theorem f74_spec {h : Heap} {n : Nat} {b : Nat} {ci : CI} (s : ByteArray) (p e : Int) (hb : h.get b = some (.cells [.string s, .int .i64 p, .int .i64 e] true ci)) :
    Tells Tryz.prog 74 [.pointer (some ⟨b, 0, none⟩)] h n (.bool (decide (e = 0))) := by
  refine Makes.tells (Makes.free fun hf => ?_)
  have hs : SubBut h h ([]) := .refl _ _
  have hn : n ≤ n := Nat.le_refl _
  have hf0 := hf
  refine Makes.of_bodyV (args := [.pointer (some ⟨b, 0, none⟩)]) (vs := [.pointer (some ⟨b, 0, none⟩), undef, undef, undef, undef, undef, undef, undef, undef, undef, undef, undef]) Tryz.func74 rfl rfl ?_
  refine AWp.seq (AWp.rowV (l := _) pok ?_)
  refine sq.c (v := .bool false) rfl rfl rfl rfl ?_
  refine sq.e (AWp.seq (AWp.rowV (l := _) pok ?_))
  refine sq.c (v := .pointer (some ⟨b, 0, none⟩)) rfl rfl rfl rfl ?_
  refine sq.c (v := .bool true) rfl rfl (by kernel_rfl) rfl ?_
  refine sq.c (v := .bool true) rfl rfl rfl rfl ?_
  refine sq.c (v := .pointer (some ⟨b, 0, none⟩)) (wantT (g := 2) (d := 5) rfl rfl rfl) rfl rfl rfl ?_
  refine sq.c (v := .pointer (some ⟨b, 0, none⟩)) (wantT (g := 2) (d := 5) rfl rfl rfl) rfl rfl rfl ?_
  refine sq.c (v := .pointer (some ⟨b, 2, none⟩)) (wantT (g := 2) (d := 5) rfl rfl rfl) rfl (by kernel_rfl) rfl ?_
  refine sq.c (v := .int .i64 (e)) (wantT (g := 2) (d := 5) rfl rfl rfl) rfl (ld1 (P := Tryz.prog) (t := 26) (p := 2) (v := .int .i64 (e)) (by kernel_rfl) (by kernel_rfl) hb rfl) rfl ?_
  refine sq.c (v := .bool (decide (e = (0 : Int)))) (wantT (g := 2) (d := 5) rfl rfl rfl) rfl rfl rfl ?_
  refine sq.c (v := .bool (decide (e = (0 : Int)))) rfl rfl rfl rfl ?_
  refine sq.c (v := .bool (decide (e = (0 : Int)))) rfl rfl rfl rfl ?_
  refine sq.e ?_
  refine AWp.ret ?_
  refine ⟨rfl, [.bool (decide (e = (0 : Int)))], rfl, .bool (decide (e = (0 : Int))), rfl, hs, hn, ?_⟩
  rfl
theorem f55_spec {h : Heap} {n : Nat} {b : Nat} {ci : CI} (s : ByteArray) (p e : Int) (hb : h.get b = some (.cells [.string s, .int .i64 p, .int .i64 e] true ci)) (hp0 : 0 ≤ p) (hp1 : p ≤ (s.data.toList.length : Nat)) (hls : s.data.toList.length < 9223372036854775807) :
    Tells Tryz.prog 55 [.pointer (some ⟨b, 0, none⟩)] h n (.int .i64 (((s.data.toList.length : Nat) : Int) - p)) := by
  refine Makes.tells (Makes.free fun hf => ?_)
  have hs : SubBut h h ([]) := .refl _ _
  have hn : n ≤ n := Nat.le_refl _
  have hf0 := hf
  refine Makes.of_bodyV (args := [.pointer (some ⟨b, 0, none⟩)]) (vs := [.pointer (some ⟨b, 0, none⟩), undef, undef, undef, undef, undef, undef, undef, undef, undef, undef, undef, undef, undef, undef]) Tryz.func55 rfl rfl ?_
  refine AWp.seq (AWp.rowV (l := _) pok ?_)
  refine sq.c (v := .int .i64 (0)) rfl rfl rfl rfl ?_
  refine sq.e (AWp.seq (AWp.seq (AWp.rowV (l := _) pok ?_)))
  refine sq.c (v := .pointer (some ⟨b, 0, none⟩)) rfl rfl rfl rfl ?_
  refine sq.c (v := .bool false) rfl rfl (by kernel_rfl) rfl ?_
  refine sq.e ?_
  refine AWp.condF rfl rfl ?_
  refine AWp.skip (AWp.seq ?_)
  refine AWp.anyV pok [] [0, 1, 2, 3, 4, 5, 6, 7, 8, 9, 10] (by kernel_rfl) (by kernel_rfl) rfl (fun x fr fr' h n hd _ q => ⟨hd ▸ q.1, q.2⟩) ?_
  refine dq.c (v := .pointer (some ⟨b, 0, none⟩)) rfl (by kernel_rfl) rfl rfl rfl rfl ?_
  refine dq.c (v := .pointer (some ⟨b, 0, none⟩)) rfl (by kernel_rfl) rfl rfl rfl rfl ?_
  refine dq.c (v := .pointer (some ⟨b, 0, none⟩)) rfl (by kernel_rfl) rfl rfl (by kernel_rfl) rfl ?_
  refine dq.g (v := .string (s)) rfl (by kernel_rfl) rfl rfl (ld1 (P := Tryz.prog) (t := 9) (p := 0) (v := .string (s)) (by kernel_rfl) (by kernel_rfl) hb rfl) rfl ?_
  refine dq.c (v := .int .i64 ((((s).data.toList.length : Nat) : Int))) rfl (by kernel_rfl) rfl rfl (by kernel_rfl) rfl ?_
  refine dq.c (v := .pointer (some ⟨b, 0, none⟩)) rfl (by kernel_rfl) rfl rfl rfl rfl ?_
  refine dq.c (v := .pointer (some ⟨b, 0, none⟩)) rfl (by kernel_rfl) rfl rfl rfl rfl ?_
  refine dq.c (v := .pointer (some ⟨b, 1, none⟩)) rfl (by kernel_rfl) rfl rfl (by kernel_rfl) rfl ?_
  refine dq.g (v := .int .i64 (p)) rfl (by kernel_rfl) rfl rfl (ld1 (P := Tryz.prog) (t := 3) (p := 1) (v := .int .i64 (p)) (by kernel_rfl) (by kernel_rfl) hb rfl) rfl ?_
  refine dq.c (v := .int .i64 (((((s).data.toList.length : Nat) : Int)) - p)) rfl (by kernel_rfl) rfl rfl (okI (wrap_i64 (by omega) (by omega))) rfl ?_
  refine dq.c (v := .int .i64 (((((s).data.toList.length : Nat) : Int)) - p)) rfl (by kernel_rfl) rfl rfl rfl rfl ?_
  refine dq.e ?_
  refine AWp.ret ?_
  refine ⟨rfl, [.int .i64 (((((s).data.toList.length : Nat) : Int)) - p)], rfl, .int .i64 (((((s).data.toList.length : Nat) : Int)) - p), rfl, hs, hn, ?_⟩
  rfl
theorem f57_spec {h : Heap} {n : Nat} {b : Nat} {ci : CI} (s : ByteArray) (p e : Int) (hb : h.get b = some (.cells [.string s, .int .i64 p, .int .i64 e] true ci)) :
    Tells Tryz.prog 57 [.pointer (some ⟨b, 0, none⟩)] h n (.int .i64 e) := by
  refine Makes.tells (Makes.free fun hf => ?_)
  have hs : SubBut h h ([]) := .refl _ _
  have hn : n ≤ n := Nat.le_refl _
  have hf0 := hf
  refine Makes.of_bodyV (args := [.pointer (some ⟨b, 0, none⟩)]) (vs := [.pointer (some ⟨b, 0, none⟩), undef, undef, undef, undef, undef, undef, undef, undef]) Tryz.func57 rfl rfl ?_
  refine AWp.seq (AWp.rowV (l := _) pok ?_)
  refine sq.c (v := .int .i64 (0)) rfl rfl rfl rfl ?_
  refine sq.e (AWp.seq (AWp.seq (AWp.rowV (l := _) pok ?_)))
  refine sq.c (v := .pointer (some ⟨b, 0, none⟩)) rfl rfl rfl rfl ?_
  refine sq.c (v := .bool false) rfl rfl (by kernel_rfl) rfl ?_
  refine sq.e ?_
  refine AWp.condF rfl rfl ?_
  refine AWp.skip (AWp.seq (AWp.rowV (l := _) pok ?_))
  refine sq.c (v := .pointer (some ⟨b, 0, none⟩)) rfl rfl rfl rfl ?_
  refine sq.c (v := .pointer (some ⟨b, 0, none⟩)) rfl rfl rfl rfl ?_
  refine sq.c (v := .pointer (some ⟨b, 2, none⟩)) rfl rfl (by kernel_rfl) rfl ?_
  refine sq.c (v := .int .i64 (e)) rfl rfl (ld1 (P := Tryz.prog) (t := 26) (p := 2) (v := .int .i64 (e)) (by kernel_rfl) (by kernel_rfl) hb rfl) rfl ?_
  refine sq.c (v := .int .i64 (e)) rfl rfl rfl rfl ?_
  refine sq.e ?_
  refine AWp.ret ?_
  refine ⟨rfl, [.int .i64 (e)], rfl, .int .i64 (e), rfl, hs, hn, ?_⟩
  rfl
theorem f90_ok {h : Heap} {n : Nat} {b : Nat} {ci : CI} (s : ByteArray) (p e : Int) (hb : h.get b = some (.cells [.string s, .int .i64 p, .int .i64 e] true ci)) (x e2 : Int) (he : e2 = 0) :
    Makes Tryz.prog 90 [.pointer (some ⟨b, 0, none⟩), .int .i64 (x), .int .i64 (e2)] h n ([b]) (fun v h2 _ => v = .bool true ∧ h2.get b = some (.cells [.string s, .int .i64 x, .int .i64 e] true ci)) := by
  refine Makes.free fun hf => ?_
  have hs : SubBut h h ([b]) := .refl _ _
  have hn : n ≤ n := Nat.le_refl _
  have hf0 := hf
  refine Makes.of_bodyV (args := [.pointer (some ⟨b, 0, none⟩), .int .i64 (x), .int .i64 (e2)]) (vs := [.pointer (some ⟨b, 0, none⟩), .int .i64 (x), .int .i64 (e2), undef, undef, undef, undef, undef, undef, undef, undef, undef, undef, undef, undef, undef, undef]) Tryz.func90 rfl rfl ?_
  refine AWp.seq (AWp.rowV (l := _) pok ?_)
  refine sq.c (v := .bool false) rfl rfl rfl rfl ?_
  refine sq.e (AWp.seq (AWp.seq (AWp.rowV (l := _) pok ?_)))
  refine sq.c (v := .int .i64 (e2)) rfl rfl rfl rfl ?_
  refine sq.c (v := .bool (!decide (e2 = (0 : Int)))) rfl rfl rfl rfl ?_
  refine sq.e ?_
  by_cases c1_1 : e2 = (0 : Int)
  · rw [decide_eq_true c1_1]
    refine AWp.condF rfl rfl ?_
    refine AWp.skip (AWp.seq (AWp.rowV (l := _) pok ?_))
    refine sq.c (v := .pointer (some ⟨b, 0, none⟩)) rfl rfl rfl rfl ?_
    refine sq.c (v := .int .i64 (x)) rfl rfl rfl rfl ?_
    refine sq.c (v := .pointer (some ⟨b, 0, none⟩)) rfl rfl rfl rfl ?_
    refine sq.c (v := .pointer (some ⟨b, 1, none⟩)) rfl rfl (by kernel_rfl) rfl ?_
    refine sq.op rfl rfl (Does.store (k := 1) (xs := [.int .i64 (x)]) (cs' := [.string (s), .int .i64 (x), .int .i64 (e)]) hf (by kernel_rfl) rfl rfl rfl hb rfl rfl (Nat.le_of_ble_eq_true rfl) rfl) ?_
    rintro _ h2 n3 ⟨rfl, hb1⟩ s4 hn2 hf
    refine sq.w0 ?_
    have hs := hs.at (by simp) s4
    have hn := Nat.le_trans hn hn2
    refine sq.e (AWp.seq (AWp.rowV (l := _) pok ?_))
    refine sq.c (v := .bool true) rfl rfl rfl rfl ?_
    refine sq.e ?_
    refine AWp.ret ?_
    refine ⟨rfl, [.bool true], rfl, .bool true, rfl, hs, hn, ?_⟩
    exact ⟨rfl, hb1⟩
  · exfalso
    omega
theorem f90_bad {h : Heap} {n : Nat} {b : Nat} {ci : CI} (s : ByteArray) (p e : Int) (hb : h.get b = some (.cells [.string s, .int .i64 p, .int .i64 e] true ci)) (x e2 : Int) (he : ¬ e2 = 0) :
    Makes Tryz.prog 90 [.pointer (some ⟨b, 0, none⟩), .int .i64 (x), .int .i64 (e2)] h n ([b]) (fun v h2 _ => v = .bool false ∧ h2.get b = some (.cells [.string s, .int .i64 p, .int .i64 e2] true ci)) := by
  refine Makes.free fun hf => ?_
  have hs : SubBut h h ([b]) := .refl _ _
  have hn : n ≤ n := Nat.le_refl _
  have hf0 := hf
  refine Makes.of_bodyV (args := [.pointer (some ⟨b, 0, none⟩), .int .i64 (x), .int .i64 (e2)]) (vs := [.pointer (some ⟨b, 0, none⟩), .int .i64 (x), .int .i64 (e2), undef, undef, undef, undef, undef, undef, undef, undef, undef, undef, undef, undef, undef, undef]) Tryz.func90 rfl rfl ?_
  refine AWp.seq (AWp.rowV (l := _) pok ?_)
  refine sq.c (v := .bool false) rfl rfl rfl rfl ?_
  refine sq.e (AWp.seq (AWp.seq (AWp.rowV (l := _) pok ?_)))
  refine sq.c (v := .int .i64 (e2)) rfl rfl rfl rfl ?_
  refine sq.c (v := .bool (!decide (e2 = (0 : Int)))) rfl rfl rfl rfl ?_
  refine sq.e ?_
  by_cases c1_1 : e2 = (0 : Int)
  · exfalso
    omega
  · rw [decide_eq_false c1_1]
    refine AWp.condT rfl rfl ?_
    refine AWp.seq (AWp.rowV (l := _) pok ?_)
    refine sq.c (v := .pointer (some ⟨b, 0, none⟩)) rfl rfl rfl rfl ?_
    refine sq.c (v := .int .i64 (e2)) rfl rfl rfl rfl ?_
    refine sq.c (v := .pointer (some ⟨b, 0, none⟩)) rfl rfl rfl rfl ?_
    refine sq.c (v := .pointer (some ⟨b, 2, none⟩)) rfl rfl (by kernel_rfl) rfl ?_
    refine sq.op rfl rfl (Does.store (k := 1) (xs := [.int .i64 (e2)]) (cs' := [.string (s), .int .i64 (p), .int .i64 (e2)]) hf (by kernel_rfl) rfl rfl rfl hb rfl rfl (Nat.le_of_ble_eq_true rfl) rfl) ?_
    rintro _ h2 n3 ⟨rfl, hb1⟩ s4 hn2 hf
    refine sq.w0 ?_
    have hs := hs.at (by simp) s4
    have hn := Nat.le_trans hn hn2
    refine sq.e (AWp.seq (AWp.rowV (l := _) pok ?_))
    refine sq.c (v := .bool false) rfl rfl rfl rfl ?_
    refine sq.e ?_
    refine AWp.ret ?_
    refine ⟨rfl, [.bool false], rfl, .bool false, rfl, hs, hn, ?_⟩
    exact ⟨rfl, hb1⟩
theorem f75_spec {h : Heap} {n : Nat} {b : Nat} {ci : CI} (s : ByteArray) (p e : Int) (hb : h.get b = some (.cells [.string s, .int .i64 p, .int .i64 e] true ci)) (hp0 : 0 ≤ p) (hp1 : p ≤ (s.data.toList.length : Nat)) (hls : s.data.toList.length < 9223372036854775807) (most : Int) :
    Makes Tryz.prog 75 [.pointer (some ⟨b, 0, none⟩), .int .u64 (most)] h n ([b]) (fun v h2 _ => v = .int .u64 ((vrd s p e most).1) ∧ h2.get b = some (.cells [.string s, .int .i64 (vrd s p e most).2.1, .int .i64 (vrd s p e most).2.2] true ci)) := by
  refine Makes.free fun hf => ?_
  have hs : SubBut h h ([b]) := .refl _ _
  have hn : n ≤ n := Nat.le_refl _
  have hf0 := hf
  refine Makes.of_bodyV (args := [.pointer (some ⟨b, 0, none⟩), .int .u64 (most)]) (vs := [.pointer (some ⟨b, 0, none⟩), .int .u64 (most), undef, undef, undef, undef, undef, undef, undef, undef, undef, undef, undef, undef, undef, undef, undef, undef, undef, undef, undef, undef, undef, undef, undef, undef, undef, undef, undef, undef, undef, undef, undef, undef, undef, undef, undef]) Tryz.func75 rfl rfl ?_
  refine AWp.seq (AWp.rowV (l := _) pok ?_)
  refine sq.c (v := .int .u64 (0)) rfl rfl rfl rfl ?_
  refine sq.e (AWp.seq (AWp.seq (AWp.rowV (l := _) pok ?_)))
  refine sq.c (v := .pointer (some ⟨b, 0, none⟩)) rfl rfl rfl rfl ?_
  refine sq.t (v := .bool (decide (e = 0))) rfl (CallsF.fn rfl (by kernel_rfl) rfl rfl) (fun hf => f74_spec s p e hb) hf rfl ?_
  intro n1 hn2 hf
  have hn := Nat.le_trans hn hn2
  refine sq.c (v := .bool (!decide (e = 0))) rfl rfl rfl rfl ?_
  refine sq.e ?_
  by_cases c1_1 : e = 0
  · rw [decide_eq_true c1_1]
    refine AWp.condF rfl rfl ?_
    refine AWp.skip (AWp.seq ?_)
    refine AWp.anyV pok [] [0, 1, 2, 3, 4, 5, 6, 7, 8, 9, 10, 11, 12, 13, 14, 15] (by kernel_rfl) (by kernel_rfl) rfl (fun x fr fr' h n hd _ q => ⟨hd ▸ q.1, q.2⟩) ?_
    refine dq.c (v := .pointer (some ⟨b, 0, none⟩)) rfl (by kernel_rfl) rfl rfl rfl rfl ?_
    refine dq.c (v := .pointer (some ⟨b, 0, none⟩)) rfl (by kernel_rfl) rfl rfl rfl rfl ?_
    refine dq.c (v := .pointer (some ⟨b, 0, none⟩)) rfl (by kernel_rfl) rfl rfl (by kernel_rfl) rfl ?_
    refine dq.g (v := .string (s)) rfl (by kernel_rfl) rfl rfl (ld1 (P := Tryz.prog) (t := 9) (p := 0) (v := .string (s)) (by kernel_rfl) (by kernel_rfl) hb rfl) rfl ?_
    refine dq.c (v := .pointer (some ⟨b, 0, none⟩)) rfl (by kernel_rfl) rfl rfl rfl rfl ?_
    refine dq.c (v := .pointer (some ⟨b, 0, none⟩)) rfl (by kernel_rfl) rfl rfl rfl rfl ?_
    refine dq.c (v := .pointer (some ⟨b, 1, none⟩)) rfl (by kernel_rfl) rfl rfl (by kernel_rfl) rfl ?_
    refine dq.g (v := .int .i64 (p)) rfl (by kernel_rfl) rfl rfl (ld1 (P := Tryz.prog) (t := 3) (p := 1) (v := .int .i64 (p)) (by kernel_rfl) (by kernel_rfl) hb rfl) rfl ?_
    refine dq.t (v := .tuple #[.int .u64 (exN (rdN s p)), .int .i64 (exX (rdN s p) p), .int .i64 (exE (rdN s p))]) rfl (by kernel_rfl) rfl (CallsF.fn rfl (by kernel_rfl) rfl rfl) (fun hf => f89_spec s p hp0 hp1 hls) hf rfl ?_
    intro n2 hn2 hf
    have hn := Nat.le_trans hn hn2
    refine dq.c (v := .tuple #[.int .u64 (exN (rdN s p)), .int .i64 (exX (rdN s p) p), .int .i64 (exE (rdN s p))]) rfl (by kernel_rfl) rfl rfl rfl rfl ?_
    refine dq.c (v := .int .u64 (exN (rdN s p))) rfl (by kernel_rfl) rfl rfl rfl rfl ?_
    refine dq.c (v := .int .i64 (exX (rdN s p) p)) rfl (by kernel_rfl) rfl rfl rfl rfl ?_
    refine dq.c (v := .int .i64 (exE (rdN s p))) rfl (by kernel_rfl) rfl rfl rfl rfl ?_
    refine dq.c (v := .int .u64 (exN (rdN s p))) rfl (by kernel_rfl) rfl rfl rfl rfl ?_
    refine dq.c (v := .int .i64 (exX (rdN s p) p)) rfl (by kernel_rfl) rfl rfl rfl rfl ?_
    refine dq.c (v := .int .i64 (exE (rdN s p))) rfl (by kernel_rfl) rfl rfl rfl rfl ?_
    refine dq.e (AWp.seq (AWp.seq (AWp.rowV (l := _) pok ?_)))
    refine sq.c (v := .int .i64 (exE (rdN s p))) rfl rfl rfl rfl ?_
    refine sq.c (v := .bool (decide ((exE (rdN s p)) = (0 : Int)))) rfl rfl rfl rfl ?_
    refine sq.c (v := .bool (decide ((exE (rdN s p)) = (0 : Int)))) rfl rfl rfl rfl ?_
    by_cases c4_1 : (exE (rdN s p)) = (0 : Int)
    · rw [decide_eq_true c4_1]
      refine sq.c (v := .int .u64 (exN (rdN s p))) (wantT (g := 2) (d := 26) rfl rfl rfl) rfl rfl rfl ?_
      refine sq.c (v := .int .u64 (most)) (wantT (g := 2) (d := 26) rfl rfl rfl) rfl rfl rfl ?_
      refine sq.c (v := .bool (decide (most < (exN (rdN s p))))) (wantT (g := 2) (d := 26) rfl rfl rfl) rfl rfl rfl ?_
      refine sq.c (v := .bool (decide (most < (exN (rdN s p))))) rfl rfl rfl rfl ?_
      refine sq.e ?_
      by_cases c4_5 : most < (exN (rdN s p))
      · rw [decide_eq_true c4_5]
        refine AWp.condT rfl rfl ?_
        refine AWp.rowV (l := _) pok ?_
        refine sq.c (v := .int .i64 (40)) rfl rfl rfl rfl ?_
        refine sq.e (AWp.seq (AWp.seq (AWp.rowV (l := _) pok ?_)))
        refine sq.c (v := .pointer (some ⟨b, 0, none⟩)) rfl rfl rfl rfl ?_
        refine sq.c (v := .int .i64 (exX (rdN s p) p)) rfl rfl rfl rfl ?_
        refine sq.c (v := .int .i64 (40)) rfl rfl rfl rfl ?_
        refine sq.k rfl (CallsF.fn rfl (by kernel_rfl) rfl rfl) (f90_bad s p e hb (exX (rdN s p) p) 40 (by decide)) ?_
        rintro _ h4 n5 ⟨rfl, hb3⟩ s6 hn2 hf
        refine sq.w ?_
        have hs := hs.at (by simp) s6
        have hn := Nat.le_trans hn hn2
        refine sq.c (v := .bool true) rfl rfl rfl rfl ?_
        refine sq.e ?_
        refine AWp.condT rfl rfl ?_
        refine AWp.seq (AWp.rowV (l := _) pok ?_)
        refine sq.c (v := .int .u64 (0)) rfl rfl rfl rfl ?_
        refine sq.e ?_
        refine AWp.ret ?_
        refine ⟨rfl, [.int .u64 (0)], rfl, .int .u64 (0), rfl, hs, hn, ?_⟩
        have hv : vrd s p e most = (0, p, 40) := by unfold vrd; rw [if_pos c1_1, if_pos c4_1, if_pos c4_5]
        rw [hv]
        exact ⟨rfl, hb3⟩
      · rw [decide_eq_false c4_5]
        refine AWp.condF rfl rfl ?_
        refine AWp.skip (AWp.seq (AWp.seq (AWp.rowV (l := _) pok ?_)))
        refine sq.c (v := .pointer (some ⟨b, 0, none⟩)) rfl rfl rfl rfl ?_
        refine sq.c (v := .int .i64 (exX (rdN s p) p)) rfl rfl rfl rfl ?_
        refine sq.c (v := .int .i64 (exE (rdN s p))) rfl rfl rfl rfl ?_
        refine sq.k rfl (CallsF.fn rfl (by kernel_rfl) rfl rfl) (f90_ok s p e hb (exX (rdN s p) p) (exE (rdN s p)) c4_1) ?_
        rintro _ h8 n9 ⟨rfl, hb7⟩ s10 hn2 hf
        refine sq.w ?_
        have hs := hs.at (by simp) s10
        have hn := Nat.le_trans hn hn2
        refine sq.c (v := .bool false) rfl rfl rfl rfl ?_
        refine sq.e ?_
        refine AWp.condF rfl rfl ?_
        refine AWp.skip (AWp.seq (AWp.rowV (l := _) pok ?_))
        refine sq.c (v := .int .u64 (exN (rdN s p))) rfl rfl rfl rfl ?_
        refine sq.c (v := .int .u64 (exN (rdN s p))) rfl rfl rfl rfl ?_
        refine sq.e ?_
        refine AWp.ret ?_
        refine ⟨rfl, [.int .u64 (exN (rdN s p))], rfl, .int .u64 (exN (rdN s p)), rfl, hs, hn, ?_⟩
        have hv : vrd s p e most = (exN (rdN s p), exX (rdN s p) p, e) := by unfold vrd; rw [if_pos c1_1, if_pos c4_1, if_neg c4_5]
        rw [hv]
        exact ⟨rfl, hb7⟩
    · rw [decide_eq_false c4_1]
      refine sq.s (wantF (g := 2) (d := 26) rfl rfl rfl) rfl ?_
      refine sq.s (wantF (g := 2) (d := 26) rfl rfl rfl) rfl ?_
      refine sq.s (wantF (g := 2) (d := 26) rfl rfl rfl) rfl ?_
      refine sq.c (v := .bool false) rfl rfl rfl rfl ?_
      refine sq.e ?_
      refine AWp.condF rfl rfl ?_
      refine AWp.skip (AWp.seq (AWp.seq (AWp.rowV (l := _) pok ?_)))
      refine sq.c (v := .pointer (some ⟨b, 0, none⟩)) rfl rfl rfl rfl ?_
      refine sq.c (v := .int .i64 (exX (rdN s p) p)) rfl rfl rfl rfl ?_
      refine sq.c (v := .int .i64 (exE (rdN s p))) rfl rfl rfl rfl ?_
      refine sq.k rfl (CallsF.fn rfl (by kernel_rfl) rfl rfl) (f90_bad s p e hb (exX (rdN s p) p) (exE (rdN s p)) c4_1) ?_
      rintro _ h12 n13 ⟨rfl, hb11⟩ s14 hn2 hf
      refine sq.w ?_
      have hs := hs.at (by simp) s14
      have hn := Nat.le_trans hn hn2
      refine sq.c (v := .bool true) rfl rfl rfl rfl ?_
      refine sq.e ?_
      refine AWp.condT rfl rfl ?_
      refine AWp.seq (AWp.rowV (l := _) pok ?_)
      refine sq.c (v := .int .u64 (0)) rfl rfl rfl rfl ?_
      refine sq.e ?_
      refine AWp.ret ?_
      refine ⟨rfl, [.int .u64 (0)], rfl, .int .u64 (0), rfl, hs, hn, ?_⟩
      have hv : vrd s p e most = (0, p, exE (rdN s p)) := by unfold vrd; rw [if_pos c1_1, if_neg c4_1]
      rw [hv]
      exact ⟨rfl, hb11⟩
  · rw [decide_eq_false c1_1]
    refine AWp.condT rfl rfl ?_
    refine AWp.seq (AWp.rowV (l := _) pok ?_)
    refine sq.c (v := .int .u64 (0)) rfl rfl rfl rfl ?_
    refine sq.e ?_
    refine AWp.ret ?_
    refine ⟨rfl, [.int .u64 (0)], rfl, .int .u64 (0), rfl, hs, hn, ?_⟩
    have hv : vrd s p e most = (0, p, e) := by unfold vrd; rw [if_neg c1_1]
    rw [hv]
    exact ⟨rfl, hb⟩
theorem f76_spec {h : Heap} {n : Nat} {b : Nat} {ci : CI} (s : ByteArray) (p e : Int) (hb : h.get b = some (.cells [.string s, .int .i64 p, .int .i64 e] true ci)) (hp0 : 0 ≤ p) (hp1 : p ≤ (s.data.toList.length : Nat)) (hls : s.data.toList.length < 9223372036854775807) (n_ : Int) (hn0 : 0 ≤ n_) (hn1 : n_ < 9223372036854775808) :
    Makes Tryz.prog 76 [.pointer (some ⟨b, 0, none⟩), .int .i64 (n_)] h n ([b]) (fun v h2 _ => v = .string ((raw s p e n_).1) ∧ h2.get b = some (.cells [.string s, .int .i64 (raw s p e n_).2.1, .int .i64 (raw s p e n_).2.2] true ci)) := by
  refine Makes.free fun hf => ?_
  have hs : SubBut h h ([b]) := .refl _ _
  have hn : n ≤ n := Nat.le_refl _
  have hf0 := hf
  refine Makes.of_bodyV (args := [.pointer (some ⟨b, 0, none⟩), .int .i64 (n_)]) (vs := [.pointer (some ⟨b, 0, none⟩), .int .i64 (n_), undef, undef, undef, undef, undef, undef, undef, undef, undef, undef, undef, undef, undef, undef, undef, undef, undef, undef, undef, undef, undef, undef, undef, undef, undef, undef, undef, undef, undef, undef, undef, undef, undef, undef, undef, undef, undef, undef, undef, undef, undef, undef, undef, undef]) Tryz.func76 rfl rfl ?_
  refine AWp.seq (AWp.rowV (l := _) pok ?_)
  refine sq.c (v := .string (⟨#[]⟩)) rfl rfl rfl rfl ?_
  refine sq.e (AWp.seq (AWp.block (AWp.seq (AWp.rowV (l := _) pok ?_))))
  refine sq.c (v := .pointer (some ⟨b, 0, none⟩)) rfl rfl rfl rfl ?_
  refine sq.t (v := .bool (decide (e = 0))) rfl (CallsF.fn rfl (by kernel_rfl) rfl rfl) (fun hf => f74_spec s p e hb) hf rfl ?_
  intro n1 hn2 hf
  have hn := Nat.le_trans hn hn2
  refine sq.c (v := .bool (!decide (e = 0))) rfl rfl rfl rfl ?_
  refine sq.c (v := .bool (!decide (e = 0))) rfl rfl rfl rfl ?_
  refine sq.e ?_
  by_cases c1_1 : e = 0
  · rw [decide_eq_true c1_1]
    refine AWp.condF rfl rfl ?_
    refine AWp.seq (AWp.rowV (l := _) pok ?_)
    refine sq.c (v := .int .i64 (n_)) rfl rfl rfl rfl ?_
    refine sq.c (v := .bool (decide (n_ < (0 : Int)))) rfl rfl rfl rfl ?_
    refine sq.c (v := .bool (decide (n_ < (0 : Int)))) rfl rfl rfl rfl ?_
    refine sq.e ?_
    by_cases c3_1 : n_ < (0 : Int)
    · exfalso
      omega
    · rw [decide_eq_false c3_1]
      refine AWp.condF rfl rfl ?_
      refine AWp.seq (AWp.rowV (l := _) pok ?_)
      refine sq.c (v := .pointer (some ⟨b, 0, none⟩)) rfl rfl rfl rfl ?_
      refine sq.t (v := .int .i64 (((s.data.toList.length : Nat) : Int) - p)) rfl (CallsF.fn rfl (by kernel_rfl) rfl rfl) (fun hf => f55_spec s p e hb (by omega) (by omega) hls) hf rfl ?_
      intro n2 hn2 hf
      have hn := Nat.le_trans hn hn2
      refine sq.c (v := .int .i64 (n_)) rfl rfl rfl rfl ?_
      refine sq.c (v := .bool (decide ((((s.data.toList.length : Nat) : Int) - p) < n_))) rfl rfl rfl rfl ?_
      refine sq.c (v := .bool (decide ((((s.data.toList.length : Nat) : Int) - p) < n_))) rfl rfl rfl rfl ?_
      refine sq.e ?_
      by_cases c6_3 : (((s.data.toList.length : Nat) : Int) - p) < n_
      · rw [decide_eq_true c6_3]
        refine AWp.condT rfl rfl ?_
        refine AWp.seq (AWp.rowV (l := _) pok ?_)
        refine sq.c (v := .pointer (some ⟨b, 0, none⟩)) rfl rfl rfl rfl ?_
        refine sq.c (v := .pointer (some ⟨b, 0, none⟩)) rfl rfl rfl rfl ?_
        refine sq.c (v := .pointer (some ⟨b, 2, none⟩)) rfl rfl (by kernel_rfl) rfl ?_
        refine sq.op rfl rfl (Does.store (k := 1) (xs := [.int .i64 (8)]) (cs' := [.string (s), .int .i64 (p), .int .i64 (8)]) hf (by kernel_rfl) rfl rfl rfl hb rfl rfl (Nat.le_of_ble_eq_true rfl) rfl) ?_
        rintro _ h4 n5 ⟨rfl, hb3⟩ s6 hn2 hf
        refine sq.w0 ?_
        have hs := hs.at (by simp) s6
        have hn := Nat.le_trans hn hn2
        refine sq.e (AWp.seq (AWp.rowV (l := _) pok ?_))
        refine sq.c (v := .string (⟨#[]⟩)) rfl rfl rfl rfl ?_
        refine sq.e ?_
        refine AWp.ret ?_
        refine ⟨rfl, [.string (⟨#[]⟩)], rfl, .string (⟨#[]⟩), rfl, hs, hn, ?_⟩
        have hv : raw s p e n_ = (⟨#[]⟩, p, 8) := by unfold raw; rw [if_pos c1_1, if_pos c6_3]
        rw [hv]
        exact ⟨rfl, hb3⟩
      · rw [decide_eq_false c6_3]
        refine AWp.condF rfl rfl ?_
        refine AWp.skip (AWp.seq (AWp.rowV (l := _) pok ?_))
        refine sq.c (v := .pointer (some ⟨b, 0, none⟩)) rfl rfl rfl rfl ?_
        refine sq.c (v := .pointer (some ⟨b, 0, none⟩)) rfl rfl rfl rfl ?_
        refine sq.c (v := .pointer (some ⟨b, 1, none⟩)) rfl rfl (by kernel_rfl) rfl ?_
        refine sq.c (v := .int .i64 (p)) rfl rfl (ld1 (P := Tryz.prog) (t := 3) (p := 1) (v := .int .i64 (p)) (by kernel_rfl) (by kernel_rfl) hb rfl) rfl ?_
        refine sq.c (v := .int .i64 (n_)) rfl rfl rfl rfl ?_
        refine sq.c (v := .int .i64 (p + n_)) rfl rfl (okI (wrap_i64 (by omega) (by omega))) rfl ?_
        refine sq.c (v := .pointer (some ⟨b, 0, none⟩)) rfl rfl rfl rfl ?_
        refine sq.c (v := .pointer (some ⟨b, 1, none⟩)) rfl rfl (by kernel_rfl) rfl ?_
        refine sq.op rfl rfl (Does.store (k := 1) (xs := [.int .i64 (p + n_)]) (cs' := [.string (s), .int .i64 (p + n_), .int .i64 (e)]) hf (by kernel_rfl) rfl rfl rfl hb rfl rfl (Nat.le_of_ble_eq_true rfl) rfl) ?_
        rintro _ h8 n9 ⟨rfl, hb7⟩ s10 hn2 hf
        refine sq.w0 ?_
        have hs := hs.at (by simp) s10
        have hn := Nat.le_trans hn hn2
        refine sq.e (AWp.seq ?_)
        refine AWp.anyV pok [] [0, 1, 2, 3, 4, 5, 6, 7, 8, 9, 10, 11, 12, 13, 14, 15] (by kernel_rfl) (by kernel_rfl) rfl (fun x fr fr' h n hd _ q => ⟨hd ▸ q.1, q.2⟩) ?_
        refine dq.c (v := .pointer (some ⟨b, 0, none⟩)) rfl (by kernel_rfl) rfl rfl rfl rfl ?_
        refine dq.c (v := .pointer (some ⟨b, 0, none⟩)) rfl (by kernel_rfl) rfl rfl rfl rfl ?_
        refine dq.c (v := .pointer (some ⟨b, 0, none⟩)) rfl (by kernel_rfl) rfl rfl (by kernel_rfl) rfl ?_
        refine dq.g (v := .string (s)) rfl (by kernel_rfl) rfl rfl (ld1 (P := Tryz.prog) (t := 9) (p := 0) (v := .string (s)) (by kernel_rfl) (by kernel_rfl) hb7 rfl) rfl ?_
        refine dq.c (v := .pointer (some ⟨b, 0, none⟩)) rfl (by kernel_rfl) rfl rfl rfl rfl ?_
        refine dq.c (v := .pointer (some ⟨b, 0, none⟩)) rfl (by kernel_rfl) rfl rfl rfl rfl ?_
        refine dq.c (v := .pointer (some ⟨b, 1, none⟩)) rfl (by kernel_rfl) rfl rfl (by kernel_rfl) rfl ?_
        refine dq.g (v := .int .i64 (p + n_)) rfl (by kernel_rfl) rfl rfl (ld1 (P := Tryz.prog) (t := 3) (p := 1) (v := .int .i64 (p + n_)) (by kernel_rfl) (by kernel_rfl) hb7 rfl) rfl ?_
        refine dq.c (v := .int .i64 (n_)) rfl (by kernel_rfl) rfl rfl rfl rfl ?_
        refine dq.c (v := .int .i64 ((p + n_) - n_)) rfl (by kernel_rfl) rfl rfl (okI (wrap_i64 (by omega) (by omega))) rfl ?_
        refine dq.c (v := .pointer (some ⟨b, 0, none⟩)) rfl (by kernel_rfl) rfl rfl rfl rfl ?_
        refine dq.c (v := .pointer (some ⟨b, 0, none⟩)) rfl (by kernel_rfl) rfl rfl rfl rfl ?_
        refine dq.c (v := .pointer (some ⟨b, 1, none⟩)) rfl (by kernel_rfl) rfl rfl (by kernel_rfl) rfl ?_
        refine dq.g (v := .int .i64 (p + n_)) rfl (by kernel_rfl) rfl rfl (ld1 (P := Tryz.prog) (t := 3) (p := 1) (v := .int .i64 (p + n_)) (by kernel_rfl) (by kernel_rfl) hb7 rfl) rfl ?_
        refine dq.c (v := .string (sub (s) ((p + n_) - n_) (p + n_))) rfl (by kernel_rfl) rfl rfl (slice_str (P := Tryz.prog) (h := h8) (t := 9) (s := s) (l := (p + n_) - n_) (u := p + n_) (by kernel_rfl) (.inr ⟨_, rfl⟩) (.inr ⟨_, rfl⟩) (by omega) (by omega) (by omega)) rfl ?_
        refine dq.c (v := .string (sub (s) ((p + n_) - n_) (p + n_))) rfl (by kernel_rfl) rfl rfl rfl rfl ?_
        refine dq.e ?_
        refine AWp.ret ?_
        refine ⟨rfl, [.string (sub (s) ((p + n_) - n_) (p + n_))], rfl, .string (sub (s) ((p + n_) - n_) (p + n_)), rfl, hs, hn, ?_⟩
        have hv : raw s p e n_ = (sub s p (p + n_), p + n_, e) := by unfold raw; rw [if_pos c1_1, if_neg c6_3]
        rw [hv]
        refine ⟨?_, hb7⟩
        rw [show p + n_ - n_ = p by omega]
  · rw [decide_eq_false c1_1]
    refine AWp.condT rfl rfl ?_
    refine AWp.seq (AWp.rowV (l := _) pok ?_)
    refine sq.c (v := .string (⟨#[]⟩)) rfl rfl rfl rfl ?_
    refine sq.e ?_
    refine AWp.ret ?_
    refine ⟨rfl, [.string (⟨#[]⟩)], rfl, .string (⟨#[]⟩), rfl, hs, hn, ?_⟩
    have hv : raw s p e n_ = (⟨#[]⟩, p, e) := by unfold raw; rw [if_neg c1_1]
    rw [hv]
    exact ⟨rfl, hb⟩
theorem f56_spec {h : Heap} {n : Nat} {b : Nat} {ci : CI} (s : ByteArray) (p e : Int) (hb : h.get b = some (.cells [.string s, .int .i64 p, .int .i64 e] true ci)) (hp0 : 0 ≤ p) (hp1 : p ≤ (s.data.toList.length : Nat)) (hls : s.data.toList.length < 9223372036854775807) (most : Int) (hm0 : 0 ≤ most) (hm1 : most < 9223372036854775808) :
    Makes Tryz.prog 56 [.pointer (some ⟨b, 0, none⟩), .int .i64 (most)] h n ([b]) (fun v h2 _ => v = .string ((txr s p e most).1) ∧ h2.get b = some (.cells [.string s, .int .i64 (txr s p e most).2.1, .int .i64 (txr s p e most).2.2] true ci)) := by
  refine Makes.free fun hf => ?_
  have hv := vrd_at (s := s) (e := e) (most := most) hp0 hp1
  have hs : SubBut h h ([b]) := .refl _ _
  have hn : n ≤ n := Nat.le_refl _
  have hf0 := hf
  refine Makes.of_bodyV (args := [.pointer (some ⟨b, 0, none⟩), .int .i64 (most)]) (vs := [.pointer (some ⟨b, 0, none⟩), .int .i64 (most), undef, undef, undef, undef, undef, undef, undef, undef, undef, undef, undef, undef, undef, undef, undef, undef, undef, undef, undef, undef, undef, undef, undef, undef, undef, undef, undef, undef, undef, undef, undef, undef, undef, undef, undef, undef, undef, undef, undef, undef, undef, undef, undef, undef, undef]) Tryz.func56 rfl rfl ?_
  refine AWp.seq (AWp.rowV (l := _) pok ?_)
  refine sq.c (v := .string (⟨#[]⟩)) rfl rfl rfl rfl ?_
  refine sq.e (AWp.seq (AWp.seq (AWp.rowV (l := _) pok ?_)))
  refine sq.c (v := .pointer (some ⟨b, 0, none⟩)) rfl rfl rfl rfl ?_
  refine sq.t (v := .bool (decide (e = 0))) rfl (CallsF.fn rfl (by kernel_rfl) rfl rfl) (fun hf => f74_spec s p e hb) hf rfl ?_
  intro n1 hn2 hf
  have hn := Nat.le_trans hn hn2
  refine sq.c (v := .bool (!decide (e = 0))) rfl rfl rfl rfl ?_
  refine sq.e ?_
  by_cases c1_1 : e = 0
  · rw [decide_eq_true c1_1]
    refine AWp.condF rfl rfl ?_
    refine AWp.skip (AWp.seq (AWp.rowV (l := _) pok ?_))
    refine sq.c (v := .pointer (some ⟨b, 0, none⟩)) rfl rfl rfl rfl ?_
    refine sq.c (v := .pointer (some ⟨b, 0, none⟩)) rfl rfl rfl rfl ?_
    refine sq.c (v := .pointer (some ⟨b, 1, none⟩)) rfl rfl (by kernel_rfl) rfl ?_
    refine sq.c (v := .int .i64 (p)) rfl rfl (ld1 (P := Tryz.prog) (t := 3) (p := 1) (v := .int .i64 (p)) (by kernel_rfl) (by kernel_rfl) hb rfl) rfl ?_
    refine sq.c (v := .int .i64 (p)) rfl rfl rfl rfl ?_
    refine sq.e (AWp.seq (AWp.rowV (l := _) pok ?_))
    refine sq.c (v := .pointer (some ⟨b, 0, none⟩)) rfl rfl rfl rfl ?_
    refine sq.c (v := .int .i64 (most)) rfl rfl rfl rfl ?_
    refine sq.c (v := .int .i64 (most)) rfl rfl (okI ((maxE _ _).trans (Int.max_eq_left hm0))) rfl ?_
    refine sq.c (v := .int .u64 (most)) rfl rfl (Eq.trans (b := some (.int .u64 (IntKind.u64.wrap (most)))) (by kernel_rfl) (okI (wrap_u64 (by omega) (by omega)))) rfl ?_
    refine sq.k rfl (CallsF.fn rfl (by kernel_rfl) rfl rfl) (f75_spec s p e hb hp0 hp1 hls most) ?_
    rintro _ h3 n4 ⟨rfl, hb2⟩ s5 hn2 hf
    refine sq.w ?_
    have hs := hs.at (by simp) s5
    have hn := Nat.le_trans hn hn2
    refine sq.c (v := .int .u64 ((vrd s p e most).1)) rfl rfl rfl rfl ?_
    refine sq.e (AWp.seq (AWp.seq (AWp.rowV (l := _) pok ?_)))
    refine sq.c (v := .pointer (some ⟨b, 0, none⟩)) rfl rfl rfl rfl ?_
    refine sq.c (v := .pointer (some ⟨b, 0, none⟩)) rfl rfl rfl rfl ?_
    refine sq.c (v := .pointer (some ⟨b, 2, none⟩)) rfl rfl (by kernel_rfl) rfl ?_
    refine sq.c (v := .int .i64 ((vrd s p e most).2.2)) rfl rfl (ld1 (P := Tryz.prog) (t := 26) (p := 2) (v := .int .i64 ((vrd s p e most).2.2)) (by kernel_rfl) (by kernel_rfl) hb2 rfl) rfl ?_
    refine sq.c (v := .bool (decide (((vrd s p e most).2.2) = (0 : Int)))) rfl rfl rfl rfl ?_
    refine sq.c (v := .bool (decide (((vrd s p e most).2.2) = (0 : Int)))) rfl rfl rfl rfl ?_
    by_cases c5_4 : ((vrd s p e most).2.2) = (0 : Int)
    · rw [decide_eq_true c5_4]
      refine sq.c (v := .pointer (some ⟨b, 0, none⟩)) (wantT (g := 5) (d := 24) rfl rfl rfl) rfl rfl rfl ?_
      refine sq.t (v := .int .i64 (((s.data.toList.length : Nat) : Int) - (vrd s p e most).2.1)) (wantT (g := 5) (d := 24) rfl rfl rfl) (CallsF.fn rfl (by kernel_rfl) rfl rfl) (fun hf => f55_spec s _ _ hb2 hv.1 hv.2.1 hls) hf rfl ?_
      intro n6 hn2 hf
      have hn := Nat.le_trans hn hn2
      refine sq.c (v := .int .u64 (((s.data.toList.length : Nat) : Int) - (vrd s p e most).2.1)) (wantT (g := 5) (d := 24) rfl rfl rfl) rfl (Eq.trans (b := some (.int .u64 (IntKind.u64.wrap (((s.data.toList.length : Nat) : Int) - (vrd s p e most).2.1)))) (by kernel_rfl) (okI (wrap_u64 (by omega) (by omega)))) rfl ?_
      refine sq.c (v := .int .u64 ((vrd s p e most).1)) (wantT (g := 5) (d := 24) rfl rfl rfl) rfl rfl rfl ?_
      refine sq.c (v := .bool (decide ((((s.data.toList.length : Nat) : Int) - (vrd s p e most).2.1) < ((vrd s p e most).1)))) (wantT (g := 5) (d := 24) rfl rfl rfl) rfl rfl rfl ?_
      refine sq.c (v := .bool (decide ((((s.data.toList.length : Nat) : Int) - (vrd s p e most).2.1) < ((vrd s p e most).1)))) rfl rfl rfl rfl ?_
      refine sq.e ?_
      by_cases c5_10 : (((s.data.toList.length : Nat) : Int) - (vrd s p e most).2.1) < ((vrd s p e most).1)
      · rw [decide_eq_true c5_10]
        refine AWp.condT rfl rfl ?_
        refine AWp.rowV (l := _) pok ?_
        refine sq.c (v := .pointer (some ⟨b, 0, none⟩)) rfl rfl rfl rfl ?_
        refine sq.c (v := .pointer (some ⟨b, 0, none⟩)) rfl rfl rfl rfl ?_
        refine sq.c (v := .int .i64 (p)) rfl rfl rfl rfl ?_
        refine sq.c (v := .pointer (some ⟨b, 0, none⟩)) rfl rfl rfl rfl ?_
        refine sq.c (v := .pointer (some ⟨b, 2, none⟩)) rfl rfl (by kernel_rfl) rfl ?_
        refine sq.op rfl rfl (Does.store (k := 1) (xs := [.int .i64 (8)]) (cs' := [.string (s), .int .i64 ((vrd s p e most).2.1), .int .i64 (8)]) hf (by kernel_rfl) rfl rfl rfl hb2 rfl rfl (Nat.le_of_ble_eq_true rfl) rfl) ?_
        rintro _ h8 n9 ⟨rfl, hb7⟩ s10 hn2 hf
        refine sq.w0 ?_
        have hs := hs.at (by simp) s10
        have hn := Nat.le_trans hn hn2
        refine sq.c (v := .pointer (some ⟨b, 0, none⟩)) rfl rfl rfl rfl ?_
        refine sq.c (v := .pointer (some ⟨b, 1, none⟩)) rfl rfl (by kernel_rfl) rfl ?_
        refine sq.op rfl rfl (Does.store (k := 1) (xs := [.int .i64 (p)]) (cs' := [.string (s), .int .i64 (p), .int .i64 (8)]) hf (by kernel_rfl) rfl rfl rfl hb7 rfl rfl (Nat.le_of_ble_eq_true rfl) rfl) ?_
        rintro _ h12 n13 ⟨rfl, hb11⟩ s14 hn2 hf
        refine sq.w0 ?_
        have hs := hs.at (by simp) s14
        have hn := Nat.le_trans hn hn2
        refine sq.e (AWp.seq (AWp.seq (AWp.rowV (l := _) pok ?_)))
        refine sq.c (v := .pointer (some ⟨b, 0, none⟩)) rfl rfl rfl rfl ?_
        refine sq.c (v := .pointer (some ⟨b, 0, none⟩)) rfl rfl rfl rfl ?_
        refine sq.c (v := .pointer (some ⟨b, 2, none⟩)) rfl rfl (by kernel_rfl) rfl ?_
        refine sq.c (v := .int .i64 (8)) rfl rfl (ld1 (P := Tryz.prog) (t := 26) (p := 2) (v := .int .i64 (8)) (by kernel_rfl) (by kernel_rfl) hb11 rfl) rfl ?_
        refine sq.c (v := .bool true) rfl rfl rfl rfl ?_
        refine sq.e ?_
        refine AWp.condT rfl rfl ?_
        refine AWp.seq (AWp.rowV (l := _) pok ?_)
        refine sq.c (v := .string (⟨#[]⟩)) rfl rfl rfl rfl ?_
        refine sq.e ?_
        refine AWp.ret ?_
        refine ⟨rfl, [.string (⟨#[]⟩)], rfl, .string (⟨#[]⟩), rfl, hs, hn, ?_⟩
        have hv2 : txr s p e most = (⟨#[]⟩, p, 8) := by unfold txr; rw [if_pos c1_1, if_pos c5_4, if_pos c5_10]
        rw [hv2]
        exact ⟨rfl, hb11⟩
      · rw [decide_eq_false c5_10]
        refine AWp.condF rfl rfl ?_
        refine AWp.skip (AWp.seq (AWp.seq (AWp.rowV (l := _) pok ?_)))
        refine sq.c (v := .pointer (some ⟨b, 0, none⟩)) rfl rfl rfl rfl ?_
        refine sq.c (v := .pointer (some ⟨b, 0, none⟩)) rfl rfl rfl rfl ?_
        refine sq.c (v := .pointer (some ⟨b, 2, none⟩)) rfl rfl (by kernel_rfl) rfl ?_
        refine sq.c (v := .int .i64 ((vrd s p e most).2.2)) rfl rfl (ld1 (P := Tryz.prog) (t := 26) (p := 2) (v := .int .i64 ((vrd s p e most).2.2)) (by kernel_rfl) (by kernel_rfl) hb2 rfl) rfl ?_
        refine sq.c (v := .bool (!decide (((vrd s p e most).2.2) = (0 : Int)))) rfl rfl rfl rfl ?_
        refine sq.e ?_
        by_cases c7_4 : ((vrd s p e most).2.2) = (0 : Int)
        · rw [decide_eq_true c7_4]
          refine AWp.condF rfl rfl ?_
          refine AWp.skip (AWp.seq (AWp.rowV (l := _) pok ?_))
          refine sq.c (v := .pointer (some ⟨b, 0, none⟩)) rfl rfl rfl rfl ?_
          refine sq.c (v := .int .u64 ((vrd s p e most).1)) rfl rfl rfl rfl ?_
          refine sq.c (v := .int .i64 ((vrd s p e most).1)) rfl rfl (Eq.trans (b := some (.int .i64 (IntKind.i64.wrap ((vrd s p e most).1)))) (by kernel_rfl) (okI (wrap_i64 (by omega) (by omega)))) rfl ?_
          refine sq.k rfl (CallsF.fn rfl (by kernel_rfl) rfl rfl) (f76_spec s _ _ hb2 hv.1 hv.2.1 hls _ hv.2.2 (by omega)) ?_
          rintro _ h16 n17 ⟨rfl, hb15⟩ s18 hn2 hf
          refine sq.w ?_
          have hs := hs.at (by simp) s18
          have hn := Nat.le_trans hn hn2
          refine sq.c (v := .string ((raw s (vrd s p e most).2.1 (vrd s p e most).2.2 (vrd s p e most).1).1)) rfl rfl rfl rfl ?_
          refine sq.e ?_
          refine AWp.ret ?_
          refine ⟨rfl, [.string ((raw s (vrd s p e most).2.1 (vrd s p e most).2.2 (vrd s p e most).1).1)], rfl, .string ((raw s (vrd s p e most).2.1 (vrd s p e most).2.2 (vrd s p e most).1).1), rfl, hs, hn, ?_⟩
          have hv2 : txr s p e most = raw s (vrd s p e most).2.1 (vrd s p e most).2.2 (vrd s p e most).1 := by unfold txr; rw [if_pos c1_1, if_pos c5_4, if_neg c5_10]
          rw [hv2]
          exact ⟨rfl, hb15⟩
        · exfalso
          omega
    · rw [decide_eq_false c5_4]
      refine sq.s (wantF (g := 5) (d := 24) rfl rfl rfl) rfl ?_
      refine sq.s (wantF (g := 5) (d := 24) rfl rfl rfl) rfl ?_
      refine sq.s (wantF (g := 5) (d := 24) rfl rfl rfl) rfl ?_
      refine sq.s (wantF (g := 5) (d := 24) rfl rfl rfl) rfl ?_
      refine sq.s (wantF (g := 5) (d := 24) rfl rfl rfl) rfl ?_
      refine sq.c (v := .bool false) rfl rfl rfl rfl ?_
      refine sq.e ?_
      refine AWp.condF rfl rfl ?_
      refine AWp.skip (AWp.seq (AWp.seq (AWp.rowV (l := _) pok ?_)))
      refine sq.c (v := .pointer (some ⟨b, 0, none⟩)) rfl rfl rfl rfl ?_
      refine sq.c (v := .pointer (some ⟨b, 0, none⟩)) rfl rfl rfl rfl ?_
      refine sq.c (v := .pointer (some ⟨b, 2, none⟩)) rfl rfl (by kernel_rfl) rfl ?_
      refine sq.c (v := .int .i64 ((vrd s p e most).2.2)) rfl rfl (ld1 (P := Tryz.prog) (t := 26) (p := 2) (v := .int .i64 ((vrd s p e most).2.2)) (by kernel_rfl) (by kernel_rfl) hb2 rfl) rfl ?_
      refine sq.c (v := .bool (!decide (((vrd s p e most).2.2) = (0 : Int)))) rfl rfl rfl rfl ?_
      refine sq.e ?_
      by_cases c7_4 : ((vrd s p e most).2.2) = (0 : Int)
      · exfalso
        omega
      · rw [decide_eq_false c7_4]
        refine AWp.condT rfl rfl ?_
        refine AWp.seq (AWp.rowV (l := _) pok ?_)
        refine sq.c (v := .string (⟨#[]⟩)) rfl rfl rfl rfl ?_
        refine sq.e ?_
        refine AWp.ret ?_
        refine ⟨rfl, [.string (⟨#[]⟩)], rfl, .string (⟨#[]⟩), rfl, hs, hn, ?_⟩
        have hv2 : txr s p e most = (⟨#[]⟩, (vrd s p e most).2.1, (vrd s p e most).2.2) := by unfold txr; rw [if_pos c1_1, if_neg c5_4]
        rw [hv2]
        exact ⟨rfl, hb2⟩
  · rw [decide_eq_false c1_1]
    refine AWp.condT rfl rfl ?_
    refine AWp.seq (AWp.rowV (l := _) pok ?_)
    refine sq.c (v := .string (⟨#[]⟩)) rfl rfl rfl rfl ?_
    refine sq.e ?_
    refine AWp.ret ?_
    refine ⟨rfl, [.string (⟨#[]⟩)], rfl, .string (⟨#[]⟩), rfl, hs, hn, ?_⟩
    have hv2 : txr s p e most = (⟨#[]⟩, p, e) := by unfold txr; rw [if_neg c1_1]
    rw [hv2]
    exact ⟨rfl, hb⟩
end Go.Proofs.YtkpjfibpaojelaaGreatDoor
namespace Go.Proofs.YtkpjfibpaojelaaGreatDoor
open Go Go.Abs
set_option maxRecDepth 100000
def tabA : Tab := [(13, [], .bool true)]
theorem tabA_run (c : Nat → CI) : tabB Tryz.prog plans (tabOv laidL []) (laidHeap c laidL) tabA = true := by kernel_rfl
theorem tabA_ok : TabOk Tryz.prog laidL tabA := TabOk.of_run pok plans_ok laidL_lt .nil tabA_run
end Go.Proofs.YtkpjfibpaojelaaGreatDoor
namespace Go.Proofs.YtkpjfibpaojelaaGreatDoor
open Go Go.Abs
set_option maxRecDepth 100000
set_option maxHeartbeats 4000000
theorem f13_spec {h : Heap} {n : Nat} (hl : Laid0 h) : Tells Tryz.prog 13 [] h n (.bool true) := by
  obtain ⟨c, hs⟩ := hl
  have := ACall.frame (P := Tryz.prog) (n := n) (laidHeap_ro c laidL_lt) hs (args := []) rfl (v := .bool true) rfl ((tabA_ok _ (List.mem_singleton.2 rfl)).2.2 c)
  exact this.mono fun _ h' _ hn _ ⟨a, b, _⟩ => ⟨h', Heap.sub_refl _, a, b, hn⟩
theorem ex_pos {s : ByteArray} {p : Int} (h : exE (rdN s p) = 0) : 0 < exK (rdN s p) := by
  cases e : rdN s p with
  | error e' => rw [e] at h; exact (rdU_e _ _ _ e (by simpa [exE] using h)).elim
  | ok q => have := rdU_k _ _ _ _ e; show (0 : Int) < (q.2 : Nat); omega
theorem txr_ok {s : ByteArray} {p e most : Int} (h0 : 0 ≤ p) (h1 : p ≤ (s.data.toList.length : Nat)) (hm : 0 ≤ most) (h : (txr s p e most).2.2 = 0) : p < (txr s p e most).2.1 ∧ (txr s p e most).2.1 ≤ (s.data.toList.length : Nat) ∧ e = 0 := by
  unfold txr at h ⊢
  by_cases he : e = 0
  · rw [if_pos he] at h ⊢
    by_cases hv : (vrd s p e most).2.2 = 0
    · rw [if_pos hv] at h ⊢
      by_cases hl : ((s.data.toList.length : Nat) : Int) - (vrd s p e most).2.1 < (vrd s p e most).1
      · rw [if_pos hl] at h; exact absurd h (show ¬ (8 : Int) = 0 by decide)
      · rw [if_neg hl]
        have h2 := vrd_at (s := s) (e := e) (most := most) h0 h1
        have h3 : p < (vrd s p e most).2.1 := by
          unfold vrd at hv ⊢
          rw [if_pos he] at hv ⊢
          by_cases hx : exE (rdN s p) = 0
          · rw [if_pos hx] at hv ⊢
            by_cases hy : most < exN (rdN s p)
            · rw [if_pos hy] at hv; exact absurd hv (show ¬ (40 : Int) = 0 by decide)
            · rw [if_neg hy]
              show p < exX (rdN s p) p
              rw [ex_good hx]
              have := ex_pos hx
              omega
          · rw [if_neg hx] at hv; exact absurd hv hx
        unfold raw
        rw [if_pos hv, if_neg hl]
        refine ⟨?_, ?_, he⟩
        · show p < (vrd s p e most).2.1 + (vrd s p e most).1; omega
        · show (vrd s p e most).2.1 + (vrd s p e most).1 ≤ _; omega
    · rw [if_neg hv] at h; exact absurd h hv
  · rw [if_neg he] at h; exact absurd h he
theorem sub_len (s : ByteArray) (l u : Int) : (sub s l u).data.toList.length ≤ s.data.toList.length := by
  simp only [sub, sliceS]
  rw [List.length_take, List.length_drop]
  omega
theorem txr_len (s : ByteArray) (p e most : Int) : (txr s p e most).1.data.toList.length ≤ s.data.toList.length := by
  unfold txr raw
  repeat' split
  all_goals first | exact Nat.zero_le _ | exact sub_len _ _ _
theorem txr_at {s : ByteArray} {p e most : Int} (h0 : 0 ≤ p) (h1 : p ≤ (s.data.toList.length : Nat)) (hm : 0 ≤ most) : 0 ≤ (txr s p e most).2.1 ∧ (txr s p e most).2.1 ≤ (s.data.toList.length : Nat) := by
  have h2 := vrd_at (s := s) (e := e) (most := most) h0 h1
  unfold txr raw
  repeat' split
  all_goals first | exact ⟨h0, h1⟩ | exact ⟨h2.1, h2.2.1⟩ | (constructor <;> simp only <;> omega)
def ofL (s : ByteArray) : Nat → Int → List Lab → List Lab × Int
  | 0, _, ls => (ls, 0)
  | f + 1, p, ls => if p < (s.data.toList.length : Nat) then
      (if (txr s (txr s p 0 64).2.1 (txr s p 0 64).2.2 256).2.2 = 0 then ofL s f (txr s (txr s p 0 64).2.1 (txr s p 0 64).2.2 256).2.1 (ls ++ [((txr s p 0 64).1, (txr s (txr s p 0 64).2.1 (txr s p 0 64).2.2 256).1)]) else ([], (txr s (txr s p 0 64).2.1 (txr s p 0 64).2.2 256).2.2)) else (ls, 0)
def ofB (s : ByteArray) : List Lab × Int :=
  if (ofL s (s.data.toList.length + 1) 0 []).2 = 0 then (if mayB (ofL s (s.data.toList.length + 1) 0 []).1 = true then ((ofL s (s.data.toList.length + 1) 0 []).1, 0) else ([], 4)) else ([], (ofL s (s.data.toList.length + 1) 0 []).2)
theorem f54_spec {h : Heap} {n : Nat} (s : ByteArray) :
    Makes Tryz.prog 54 [.string (s)] h n ([]) (fun v h2 _ => ∃ b ci, n ≤ b ∧ v = .pointer (some ⟨b, 0, none⟩) ∧ h2.get b = some (.cells [.string s, .int .i64 0, .int .i64 0] true ci)) := by
  refine Makes.free fun hf => ?_
  have hs : SubBut h h ([]) := .refl _ _
  have hn : n ≤ n := Nat.le_refl _
  have hf0 := hf
  refine Makes.of_bodyV (args := [.string (s)]) (vs := [.string (s), undef, undef, undef, undef, undef]) Tryz.func54 rfl rfl ?_
  refine AWp.seq (AWp.rowV (l := _) pok ?_)
  refine sq.c (v := .pointer none) rfl rfl rfl rfl ?_
  refine sq.e (AWp.seq (AWp.rowV (l := _) pok ?_))
  refine sq.c (v := .string (s)) rfl rfl rfl rfl ?_
  refine sq.c (v := .agg #[.string (s), .int .i64 (0), .int .i64 (0)]) rfl rfl (by kernel_rfl) rfl ?_
  have z_n : h.get n = none := hf0 _ hn
  refine sq.op rfl rfl (Does.box (cs := [.string (s), .int .i64 (0), .int .i64 (0)]) hf rfl rfl) ?_
  rintro _ h2 n3 ⟨rfl, hb1⟩ s4 hn2 hf
  refine sq.w ?_
  have hs := hs.trans s4
  have hn := Nat.le_trans hn hn2
  refine sq.c (v := .pointer (some ⟨n, 0, none⟩)) rfl rfl rfl rfl ?_
  refine sq.e ?_
  refine AWp.ret ?_
  refine ⟨rfl, [.pointer (some ⟨n, 0, none⟩)], rfl, .pointer (some ⟨n, 0, none⟩), rfl, hs, hn, ?_⟩
  exact ⟨_, _, Nat.le_refl _, rfl, hb1⟩
theorem f33_spec {h : Heap} {n : Nat} (s : ByteArray) (hks : s.data.toList.length < 1000000000) (hld : Laid0 h) :
    Makes Tryz.prog 33 [.string (s)] h n ([]) (fun v h2 _ => ∃ a cp, v = .tuple #[.slice a (ofB s).1.length cp, .int .i64 (ofB s).2] ∧ OwnRow encLab 40 h h2 (.slice a (ofB s).1.length cp) (ofB s).1) := by
  refine Makes.free fun hf => ?_
  have hls : s.data.toList.length < 9223372036854775807 := by omega
  have hs : SubBut h h ([]) := .refl _ _
  have hn : n ≤ n := Nat.le_refl _
  have hf0 := hf
  refine Makes.of_bodyV (args := [.string (s)]) (vs := [.string (s), undef, undef, undef, undef, undef, undef, undef, undef, undef, undef, undef, undef, undef, undef, undef, undef, undef, undef, undef, undef, undef, undef, undef, undef, undef, undef, undef, undef, undef, undef, undef]) Tryz.func33 rfl rfl ?_
  refine AWp.seq (AWp.rowV (l := _) pok ?_)
  refine sq.c (v := .slice none (0) (0)) rfl rfl rfl rfl ?_
  refine sq.c (v := .int .i64 (0)) rfl rfl rfl rfl ?_
  refine sq.e (AWp.seq (AWp.rowV (l := _) pok ?_))
  refine sq.c (v := .string (s)) rfl rfl rfl rfl ?_
  refine sq.k rfl (CallsF.fn rfl (by kernel_rfl) rfl rfl) (f54_spec s) ?_
  rintro _ h1 n2 ⟨r_, ci_r, hr_, rfl, hb_r⟩ s3 hn2 hf
  have z_r_ : h.get r_ = none := hf0 _ (Nat.le_trans hn hr_)
  refine sq.w ?_
  have hs := hs.trans s3
  have hn := Nat.le_trans hn hn2
  refine sq.c (v := .pointer (some ⟨r_, 0, none⟩)) rfl rfl rfl rfl ?_
  refine sq.e (AWp.seq (AWp.rowV (l := _) pok ?_))
  refine sq.c (v := .slice none (0) (0)) rfl rfl rfl rfl ?_
  refine sq.e (AWp.seq (AWp.block ?_))
  refine AWp.loopV (fun d vs h5 n6 => ∃ (p : Int) (f : Nat) (ls : List Lab) (a_l : Option Addr) (cp_l : Nat), d = ((s.data.toList.length : Nat) - p + 1).toNat ∧ SubBut h h5 ([]) ∧ n ≤ n6 ∧ Free h5 n6 ∧ h5.get r_ = some (.cells [.string (s), .int .i64 (p), .int .i64 (0)] true ci_r) ∧ OwnRow encLab 40 h h5 (.slice a_l (ls).length cp_l) (ls) ∧ (∀ c ∈ blkOf (.slice a_l (ls).length cp_l), c ≠ r_) ∧ (0 ≤ p) ∧ (p ≤ (s.data.toList.length : Nat)) ∧ (((s.data.toList.length : Nat) : Int) - p < f) ∧ ((ls.length : Int) ≤ p) ∧ (∀ x ∈ ls, x.1.data.toList.length < 9223372036854775808 ∧ x.2.data.toList.length < 9223372036854775808) ∧ (ofL s (s.data.toList.length + 1) 0 [] = ofL s f p ls) ∧ ∃ y4 : Nat → Value, vs = [.string (s), undef, (y4 2), (y4 3), .pointer (some ⟨r_, 0, none⟩), .slice a_l (ls.length) cp_l, (y4 6), (y4 7), .string (s), .pointer (some ⟨r_, 0, none⟩), (y4 10), (y4 11), (y4 12), (y4 13), (y4 14), (y4 15), (y4 16), (y4 17), (y4 18), (y4 19), (y4 20), (y4 21), (y4 22), (y4 23), (y4 24), (y4 25), (y4 26), (y4 27), undef, undef, undef, undef]) (((s.data.toList.length : Nat) - (0 : Int) + 1).toNat) ⟨0, s.data.toList.length + 1, [], none, 0, rfl, hs, hn, hf, hb_r, OwnRow.nil, (by simp [blkOf]), (by omega), (by omega), (by omega), (by simp), (fun x hx => by cases hx), (rfl), getV [undef, undef, .slice none (0) (0), .int .i64 (0), undef, undef, undef, undef, undef, undef, undef, undef, undef, undef, undef, undef, undef, undef, undef, undef, undef, undef, undef, undef, undef, undef, undef, undef], rfl⟩ ?_
  rintro d vs h5 n6 ⟨p, f, ls, a_l, cp_l, rfl, hs, hn, hf, hb_r, R_l, d_l_r_, hp0, hp1, hff, hll, hsz, hq, y4, rfl⟩
  obtain ⟨g, rfl⟩ : ∃ g, f = g + 1 := ⟨f - 1, by omega⟩
  have hA := txr_at (s := s) (p := p) (e := 0) (most := 64) hp0 hp1 (by decide)
  refine AWp.seq (AWp.seq (AWp.rowV (l := _) pok ?_))
  refine sq.c (v := .pointer (some ⟨r_, 0, none⟩)) rfl rfl rfl rfl ?_
  refine sq.t (v := .int .i64 (((s.data.toList.length : Nat) : Int) - p)) rfl (CallsF.fn rfl (by kernel_rfl) rfl rfl) (fun hf => f55_spec s p 0 hb_r hp0 hp1 hls) hf rfl ?_
  intro n7 hn2 hf
  have hn := Nat.le_trans hn hn2
  refine sq.c (v := .bool (decide ((0 : Int) < (((s.data.toList.length : Nat) : Int) - p)))) rfl rfl rfl rfl ?_
  refine sq.e ?_
  by_cases c3_2 : (0 : Int) < (((s.data.toList.length : Nat) : Int) - p)
  · rw [decide_eq_true c3_2]
    refine AWp.condT rfl rfl ?_
    refine AWp.skip (AWp.block (AWp.seq (AWp.rowV (l := _) pok ?_)))
    refine sq.c (v := .pointer (some ⟨r_, 0, none⟩)) rfl rfl rfl rfl ?_
    refine sq.k rfl (CallsF.fn rfl (by kernel_rfl) rfl rfl) (f56_spec s p 0 hb_r hp0 hp1 hls 64 (by decide) (by decide)) ?_
    rintro _ h9 n10 ⟨rfl, hb8⟩ s11 hn2 hf
    refine sq.w ?_
    have R_l := R_l.but s11 (fun c hc hm => d_l_r_ c hc (List.mem_singleton.1 hm))
    have hs := hs.fresh z_r_ s11
    have hn := Nat.le_trans hn hn2
    refine sq.c (v := .agg #[.string ((txr s p 0 64).1), .string (⟨#[]⟩)]) rfl rfl (by kernel_rfl) rfl ?_
    have e_r__n10 : r_ ≠ n10 := hf.ne hb8
    have d_l_n10 : ∀ c ∈ blkOf (.slice a_l (ls).length cp_l), c ≠ n10 := fun c hc e => R_l.ne' (hf _ (Nat.le_refl _)) c hc (List.mem_singleton.2 e)
    have z_n10 : h.get n10 = none := hf0 _ hn
    refine sq.op rfl rfl (Does.alloc (cs := [.string (⟨#[]⟩), .string (⟨#[]⟩)]) hf (z := .agg #[.string (⟨#[]⟩), .string (⟨#[]⟩)]) (by kernel_rfl) rfl) ?_
    rintro _ h13 n14 ⟨rfl, hb12⟩ s15 hn2 hf
    refine sq.w ?_
    have hb8 := s15.sub _ _ hb8
    have R_l := R_l.keep s15
    have hs := hs.trans s15
    have hn := Nat.le_trans hn hn2
    refine sq.op rfl rfl (Does.store (k := 2) (xs := [.string ((txr s p 0 64).1), .string (⟨#[]⟩)]) (cs' := [.string ((txr s p 0 64).1), .string (⟨#[]⟩)]) hf (by kernel_rfl) rfl rfl rfl hb12 rfl rfl (Nat.le_of_ble_eq_true rfl) rfl) ?_
    rintro _ h17 n18 ⟨rfl, hb16⟩ s19 hn2 hf
    refine sq.w0 ?_
    have hb8 := s19.get1 (e_r__n10) hb8
    have R_l := R_l.but s19 (fun c hc hm => d_l_n10 c hc (List.mem_singleton.1 hm))
    have hs := hs.fresh z_n10 s19
    have hn := Nat.le_trans hn hn2
    refine sq.e (AWp.seq (AWp.rowV (l := _) pok ?_))
    refine sq.c (v := .pointer (some ⟨r_, 0, none⟩)) rfl rfl rfl rfl ?_
    refine sq.k rfl (CallsF.fn rfl (by kernel_rfl) rfl rfl) (f56_spec s _ _ hb8 hA.1 hA.2 hls 256 (by decide) (by decide)) ?_
    rintro _ h21 n22 ⟨rfl, hb20⟩ s23 hn2 hf
    refine sq.w ?_
    have R_l := R_l.but s23 (fun c hc hm => d_l_r_ c hc (List.mem_singleton.1 hm))
    have hb16 := s23.get1 (Ne.symm e_r__n10) hb16
    have hs := hs.fresh z_r_ s23
    have hn := Nat.le_trans hn hn2
    refine sq.c (v := .pointer (some ⟨n10, 1, none⟩)) rfl rfl (by kernel_rfl) rfl ?_
    refine sq.op rfl rfl (Does.store (k := 1) (xs := [.string ((txr s (txr s p 0 64).2.1 (txr s p 0 64).2.2 256).1)]) (cs' := [.string ((txr s p 0 64).1), .string ((txr s (txr s p 0 64).2.1 (txr s p 0 64).2.2 256).1)]) hf (by kernel_rfl) rfl rfl rfl hb16 rfl rfl (Nat.le_of_ble_eq_true rfl) rfl) ?_
    rintro _ h25 n26 ⟨rfl, hb24⟩ s27 hn2 hf
    refine sq.w0 ?_
    have hb20 := s27.get1 (e_r__n10) hb20
    have R_l := R_l.but s27 (fun c hc hm => d_l_n10 c hc (List.mem_singleton.1 hm))
    have hs := hs.fresh z_n10 s27
    have hn := Nat.le_trans hn hn2
    refine sq.e (AWp.seq (AWp.seq (AWp.rowV (l := _) pok ?_)))
    refine sq.c (v := .pointer (some ⟨r_, 0, none⟩)) rfl rfl rfl rfl ?_
    refine sq.t (v := .int .i64 ((txr s (txr s p 0 64).2.1 (txr s p 0 64).2.2 256).2.2)) rfl (CallsF.fn rfl (by kernel_rfl) rfl rfl) (fun hf => f57_spec s _ _ hb20) hf rfl ?_
    intro n28 hn2 hf
    have hn := Nat.le_trans hn hn2
    refine sq.c (v := .int .i64 ((txr s (txr s p 0 64).2.1 (txr s p 0 64).2.2 256).2.2)) rfl rfl rfl rfl ?_
    refine sq.e (AWp.seq (AWp.rowV (l := _) pok ?_))
    refine sq.c (v := .int .i64 ((txr s (txr s p 0 64).2.1 (txr s p 0 64).2.2 256).2.2)) rfl rfl rfl rfl ?_
    refine sq.c (v := .bool (!decide (((txr s (txr s p 0 64).2.1 (txr s p 0 64).2.2 256).2.2) = (0 : Int)))) rfl rfl rfl rfl ?_
    refine sq.e ?_
    by_cases c7_1 : ((txr s (txr s p 0 64).2.1 (txr s p 0 64).2.2 256).2.2) = (0 : Int)
    · rw [decide_eq_true c7_1]
      refine AWp.condF rfl rfl ?_
      refine AWp.skip (AWp.rowV (l := _) pok ?_)
      refine sq.c (v := .slice a_l (ls.length) cp_l) rfl rfl rfl rfl ?_
      refine sq.c (v := .agg #[.string ((txr s p 0 64).1), .string ((txr s (txr s p 0 64).2.1 (txr s p 0 64).2.2 256).1)]) rfl rfl (ldA (P := Tryz.prog) (t := 40) (p := 0) (k := 2) (xs := [.string ((txr s p 0 64).1), .string ((txr s (txr s p 0 64).2.1 (txr s p 0 64).2.2 256).1)]) (by kernel_rfl) (by kernel_rfl) hb24 rfl (Nat.le_of_ble_eq_true rfl)) rfl ?_
      have e_r__n28 : r_ ≠ n28 := hf.ne hb20
      have e_n10_n28 : n10 ≠ n28 := hf.ne hb24
      have d_l_n28 : ∀ c ∈ blkOf (.slice a_l (ls).length cp_l), c ≠ n28 := fun c hc e => R_l.ne' (hf _ (Nat.le_refl _)) c hc (List.mem_singleton.2 e)
      have z_n28 : h.get n28 = none := hf0 _ hn
      refine sq.op rfl rfl (Does.build (e := 40) (cs := [.string ((txr s p 0 64).1), .string ((txr s (txr s p 0 64).2.1 (txr s p 0 64).2.2 256).1)]) hf (fun _ _ => by kernel_rfl)) ?_
      rintro _ h30 n31 ⟨rfl, hb29⟩ s32 hn2 hf
      refine sq.w ?_
      have hb20 := s32.sub _ _ hb20
      have R_l := R_l.keep s32
      have hb24 := s32.sub _ _ hb24
      have hs := hs.trans s32
      have hn := Nat.le_trans hn hn2
      have hz0 : h.get n31 = none := hf0 _ hn
      have hfo := hf
      refine sq.op rfl rfl (Does.append (E := encLab) (xs := ls) (ys := [((txr s p 0 64).1, (txr s (txr s p 0 64).2.1 (txr s p 0 64).2.2 256).1)]) appLab ⟨.slice 40, by kernel_rfl, fun _ q => by cases q⟩ hf hs R_l (IsRow.of (E := encLab) (xs := [((txr s p 0 64).1, (txr s (txr s p 0 64).2.1 (txr s p 0 64).2.2 256).1)]) (cap := 1) hb29 (Nat.le_refl _)) rfl rfl (by simp only [List.length_cons, List.length_nil]; omega) (by simp only [List.length_cons, List.length_nil]; omega) hz0) ?_
      rintro v36 h33 n34 ⟨R_l, hs, hB37⟩ s35 hn2 hf
      refine sq.w ?_
      have dn_l_r_ : ∀ c ∈ blkOf v36, c ≠ r_ := fun c hc => (hB37 c hc).elim (fun q => d_l_r_ c q) (fun q => by rw [q]; exact (hfo.ne hb20).symm)
      have dn_l_n10 : ∀ c ∈ blkOf v36, c ≠ n10 := fun c hc => (hB37 c hc).elim (fun q => d_l_n10 c q) (fun q => by rw [q]; exact (hfo.ne hb24).symm)
      have dn_l_n28 : ∀ c ∈ blkOf v36, c ≠ n28 := fun c hc => (hB37 c hc).elim (fun q => d_l_n28 c q) (fun q => by rw [q]; exact (hfo.ne hb29).symm)
      have hb20 := s35 _ _ (fun hm => d_l_r_ _ hm rfl) hb20
      have hb24 := s35 _ _ (fun hm => d_l_n10 _ hm rfl) hb24
      have hb29 := s35 _ _ (fun hm => d_l_n28 _ hm rfl) hb29
      have d_l_r_ := dn_l_r_
      have d_l_n10 := dn_l_n10
      have d_l_n28 := dn_l_n28
      obtain ⟨a38, cp39, rfl⟩ := R_l.slice
      have hn := Nat.le_trans hn hn2
      refine sq.c (v := .slice a38 (ls ++ [((txr s p 0 64).1, (txr s (txr s p 0 64).2.1 (txr s p 0 64).2.2 256).1)]).length cp39) rfl rfl rfl rfl ?_
      refine sq.e ?_
      rw [c7_1] at hb20
      have hB2 := txr_ok hA.1 hA.2 (by decide) c7_1
      have hA2 := txr_ok hp0 hp1 (by decide) hB2.2.2
      have hla := txr_len s p 0 64
      have hlb := txr_len s (txr s p 0 64).2.1 (txr s p 0 64).2.2 256
      refine ⟨_, _, rfl, by omega, (txr s (txr s p 0 64).2.1 (txr s p 0 64).2.2 256).2.1, g, ls ++ [((txr s p 0 64).1, (txr s (txr s p 0 64).2.1 (txr s p 0 64).2.2 256).1)], a38, cp39, rfl, hs, hn, hf, hb20, R_l, d_l_r_, (by omega), (by omega), (by omega), (by rw [List.length_append, List.length_singleton]; omega), (by intro x hx; rcases List.mem_append.1 hx with q | q; exact hsz x q; rw [List.mem_singleton] at q; subst q; exact ⟨Nat.lt_of_le_of_lt hla (by omega), Nat.lt_of_le_of_lt hlb (by omega)⟩), (by rw [hq, ofL, if_pos (by omega), if_pos c7_1]), getV [undef, undef, (y4 2), (y4 3), undef, undef, .pointer (some ⟨n10, 0, none⟩), .int .i64 ((txr s (txr s p 0 64).2.1 (txr s p 0 64).2.2 256).2.2), undef, undef, .pointer (some ⟨r_, 0, none⟩), .int .i64 (((s.data.toList.length : Nat) : Int) - p), .bool true, .pointer (some ⟨r_, 0, none⟩), .string ((txr s p 0 64).1), .agg #[.string ((txr s p 0 64).1), .string (⟨#[]⟩)], .pointer (some ⟨r_, 0, none⟩), .string ((txr s (txr s p 0 64).2.1 (txr s p 0 64).2.2 256).1), .pointer (some ⟨n10, 1, none⟩), .pointer (some ⟨r_, 0, none⟩), .int .i64 ((txr s (txr s p 0 64).2.1 (txr s p 0 64).2.2 256).2.2), .int .i64 ((txr s (txr s p 0 64).2.1 (txr s p 0 64).2.2 256).2.2), .bool false, (y4 23), .slice a_l (ls.length) cp_l, .agg #[.string ((txr s p 0 64).1), .string ((txr s (txr s p 0 64).2.1 (txr s p 0 64).2.2 256).1)], .slice (some ⟨n28, 0, none⟩) (1) (1), .slice a38 (ls ++ [((txr s p 0 64).1, (txr s (txr s p 0 64).2.1 (txr s p 0 64).2.2 256).1)]).length cp39], rfl⟩
    · rw [decide_eq_false c7_1]
      refine AWp.condT rfl rfl ?_
      refine AWp.seq (AWp.rowV (l := _) pok ?_)
      refine sq.c (v := .int .i64 ((txr s (txr s p 0 64).2.1 (txr s p 0 64).2.2 256).2.2)) rfl rfl rfl rfl ?_
      refine sq.c (v := .slice none (0) (0)) rfl rfl rfl rfl ?_
      refine sq.c (v := .int .i64 ((txr s (txr s p 0 64).2.1 (txr s p 0 64).2.2 256).2.2)) rfl rfl rfl rfl ?_
      refine sq.e ?_
      refine AWp.ret ?_
      refine ⟨rfl, [.slice none (0) (0), .int .i64 ((txr s (txr s p 0 64).2.1 (txr s p 0 64).2.2 256).2.2)], rfl, .tuple #[.slice none (0) (0), .int .i64 ((txr s (txr s p 0 64).2.1 (txr s p 0 64).2.2 256).2.2)], rfl, hs, hn, ?_⟩
      have hofl : ofL s (s.data.toList.length + 1) 0 [] = ([], (txr s (txr s p 0 64).2.1 (txr s p 0 64).2.2 256).2.2) := by rw [hq, ofL, if_pos (by omega), if_neg c7_1]
      have ho : ofB s = ([], (txr s (txr s p 0 64).2.1 (txr s p 0 64).2.2 256).2.2) := by
        unfold ofB
        rw [hofl, if_neg c7_1]
      rw [ho]
      exact ⟨none, 0, rfl, OwnRow.nil⟩
  · rw [decide_eq_false c3_2]
    refine AWp.condF rfl rfl ?_
    refine AWp.exit ?_
    refine AWp.seq (AWp.seq (AWp.rowV (l := _) pok ?_))
    refine sq.c (v := .slice a_l (ls.length) cp_l) rfl rfl rfl rfl ?_
    refine sq.t (v := .bool (mayB ls)) rfl (CallsF.fn rfl (by kernel_rfl) rfl rfl) (fun hf => f24_spec ls R_l.is (by omega) hsz (hld.keep hs)) hf rfl ?_
    intro n40 hn2 hf
    have hn := Nat.le_trans hn hn2
    rcases Bool.eq_false_or_eq_true (mayB ls) with c_m | c_m
    · rw [c_m]
      refine sq.c (v := .bool false) rfl rfl rfl rfl ?_
      refine sq.e ?_
      refine AWp.condF rfl rfl ?_
      refine AWp.skip (AWp.seq (AWp.rowV (l := _) pok ?_))
      refine sq.c (v := .slice a_l (ls.length) cp_l) rfl rfl rfl rfl ?_
      refine sq.c (v := .slice a_l (ls.length) cp_l) rfl rfl rfl rfl ?_
      refine sq.c (v := .int .i64 (0)) rfl rfl rfl rfl ?_
      refine sq.e ?_
      refine AWp.ret ?_
      refine ⟨rfl, [.slice a_l (ls.length) cp_l, .int .i64 (0)], rfl, .tuple #[.slice a_l (ls.length) cp_l, .int .i64 (0)], rfl, hs, hn, ?_⟩
      have hofl : ofL s (s.data.toList.length + 1) 0 [] = (ls, 0) := by rw [hq, ofL, if_neg (by omega)]
      have ho : ofB s = (ls, 0) := by
        unfold ofB
        rw [hofl, if_pos rfl, if_pos c_m]
      rw [ho]
      exact ⟨_, _, rfl, R_l⟩
    · rw [c_m]
      refine sq.c (v := .bool true) rfl rfl rfl rfl ?_
      refine sq.e ?_
      refine AWp.condT rfl rfl ?_
      refine AWp.seq (AWp.rowV (l := _) pok ?_)
      refine sq.c (v := .slice none (0) (0)) rfl rfl rfl rfl ?_
      refine sq.c (v := .int .i64 (4)) rfl rfl rfl rfl ?_
      refine sq.e ?_
      refine AWp.ret ?_
      refine ⟨rfl, [.slice none (0) (0), .int .i64 (4)], rfl, .tuple #[.slice none (0) (0), .int .i64 (4)], rfl, hs, hn, ?_⟩
      have hofl : ofL s (s.data.toList.length + 1) 0 [] = (ls, 0) := by rw [hq, ofL, if_neg (by omega)]
      have ho : ofB s = ([], 4) := by
        unfold ofB
        rw [hofl, if_pos rfl, if_neg (by rw [c_m]; decide)]
      rw [ho]
      exact ⟨none, 0, rfl, OwnRow.nil⟩
theorem or128 : ∀ n, n < 256 → n ||| 128 = n % 128 + 128 := by decide +kernel
theorem hi8_toNat (u : UInt8) : (hi8 u).toNat = u.toNat % 128 + 128 := by
  unfold hi8
  rw [UInt8.toNat_or]
  exact or128 _ u.toNat_lt
abbrev strB (bs : List UInt8) : ByteArray := ⟨bs.toArray⟩
theorem strB_add (a b : List UInt8) : strB a ++ strB b = strB (a ++ b) := by
  apply ByteArray.ext
  simp [strB, ByteArray.data_append]
theorem wrap_hi8 {n : Int} (h : 0 ≤ n) : n % 128 + 128 = ((hi8 (lo8 n)).toNat : Int) := by
  rw [hi8_toNat]
  have : (lo8 n).toNat = n.toNat % 256 := by unfold lo8; rw [UInt8.toNat_ofNat']
  omega
theorem strB_len (bs : List UInt8) : (strB bs).data.toList.length = bs.length := by simp
theorem add_len (a b : ByteArray) : (a ++ b).data.toList.length = a.data.toList.length + b.data.toList.length := by
  rw [ByteArray.data_append, Array.toList_append, List.length_append]
abbrev WRONG : Value := .iface 51 (.agg #[])
abbrev BCI : CI := ⟨72, 0, true⟩
theorem f69_spec {h : Heap} {n : Nat} (b : Bool) :
    Throws Tryz.prog 69 [.bool (b)] h n ([]) (fun v _ _ => v = undef ∧ b = true) (WRONG) (b = false) := by
  refine Throws.free fun hf => ?_
  have hs : SubBut h h ([]) := .refl _ _
  have hn : n ≤ n := Nat.le_refl _
  have hf0 := hf
  refine Throws.of_bodyV (args := [.bool (b)]) (vs := [.bool (b), undef, undef, undef, undef, undef]) Tryz.func69 rfl rfl ?_
  refine AWp.seq (AWp.rowV (l := _) pok ?_)
  refine sq.c (v := .bool (b)) rfl rfl rfl rfl ?_
  rcases Bool.eq_false_or_eq_true (b) with c_b | c_b
  · rw [c_b]
    refine sq.c (v := .bool false) rfl rfl rfl rfl ?_
    refine sq.e ?_
    refine AWp.condF rfl rfl ?_
    refine AWp.skip ?_
    refine ⟨rfl, [], rfl, .inl ⟨undef, rfl, hs, hn, ?_⟩⟩
    exact ⟨rfl, rfl⟩
  · rw [c_b]
    refine sq.c (v := .bool true) rfl rfl rfl rfl ?_
    refine sq.e ?_
    refine AWp.condT rfl rfl ?_
    refine AWp.rowV (l := _) pok ?_
    refine sq.c (v := .agg #[]) rfl rfl (by kernel_rfl) rfl ?_
    refine sq.c (v := .iface 51 (.agg #[])) rfl rfl (by kernel_rfl) rfl ?_
    refine sq.p rfl rfl rfl ?_
    refine ⟨rfl, .inr ⟨rfl, hs, hn, ?_⟩⟩
    rfl
theorem f81_nil {h : Heap} {n : Nat} {b : Nat} {v : Value} (hb : h.get b = some (.cells [.pointer none, v] true BCI)) :
    Makes Tryz.prog 81 [.pointer (some ⟨b, 0, none⟩)] h n ([b]) (fun u h2 _ => u = undef ∧ h2.get b = some (.cells [.pointer (some ⟨b, 0, none⟩), v] true BCI)) := by
  refine Makes.free fun hf => ?_
  have hs : SubBut h h ([b]) := .refl _ _
  have hn : n ≤ n := Nat.le_refl _
  have hf0 := hf
  refine Makes.of_bodyV (args := [.pointer (some ⟨b, 0, none⟩)]) (vs := [.pointer (some ⟨b, 0, none⟩), undef, undef, undef, undef, undef, undef, undef, undef, undef, undef, undef, undef, undef, undef, undef, undef, undef, undef, undef]) Tryz.func81 rfl rfl ?_
  refine AWp.seq (AWp.rowV (l := _) pok ?_)
  refine sq.c (v := .pointer (some ⟨b, 0, none⟩)) rfl rfl rfl rfl ?_
  refine sq.c (v := .pointer (some ⟨b, 0, none⟩)) rfl rfl rfl rfl ?_
  refine sq.c (v := .pointer (some ⟨b, 0, none⟩)) rfl rfl (by kernel_rfl) rfl ?_
  refine sq.c (v := .pointer none) rfl rfl (ld1 (P := Tryz.prog) (t := 70) (p := 0) (v := .pointer none) (by kernel_rfl) (by kernel_rfl) hb rfl) rfl ?_
  refine sq.c (v := .bool true) rfl rfl (by kernel_rfl) rfl ?_
  refine sq.e ?_
  refine AWp.condT rfl rfl ?_
  refine AWp.rowV (l := _) pok ?_
  refine sq.c (v := .pointer (some ⟨b, 0, none⟩)) rfl rfl rfl rfl ?_
  refine sq.c (v := .pointer (some ⟨b, 0, none⟩)) rfl rfl rfl rfl ?_
  refine sq.op rfl rfl (Does.convPtr hf (by rw [show Tryz.prog.underlying 70 = _ from Tryz.underlying70]; exact ⟨(fun e => by cases e), (fun _ e => by cases e)⟩) rfl (convPtr_to (t := 72) (k := 2) (by kernel_rfl) (by kernel_rfl) (by kernel_rfl) (by decide) hb (Nat.le_of_ble_eq_true rfl))) ?_
  rintro _ h1 n2 ⟨rfl, _⟩ s3 hn2 hf
  refine sq.w ?_
  have hb := s3.sub _ _ hb
  have hs := hs.trans (s3.mono (by simp))
  have hn := Nat.le_trans hn hn2
  refine sq.op rfl rfl (Does.same hf Tryz.func92 rfl (by kernel_rfl) rfl rfl) ?_
  rintro _ h4 n5 ⟨rfl, _⟩ s6 hn2 hf
  refine sq.w ?_
  have hb := s6.sub _ _ hb
  have hs := hs.trans (s6.mono (by simp))
  have hn := Nat.le_trans hn hn2
  refine sq.op rfl rfl (Does.convPtr hf (by rw [show Tryz.prog.underlying 107 = _ from Tryz.underlying107]; exact ⟨(fun e => by cases e), (fun _ e => by cases e)⟩) rfl (convPtr_from (t := 72) (by kernel_rfl) (by kernel_rfl) (by kernel_rfl) hb rfl (by kernel_rfl))) ?_
  rintro _ h7 n8 ⟨rfl, _⟩ s9 hn2 hf
  refine sq.w ?_
  have hb := s9.sub _ _ hb
  have hs := hs.trans (s9.mono (by simp))
  have hn := Nat.le_trans hn hn2
  refine sq.c (v := .pointer (some ⟨b, 0, none⟩)) rfl rfl rfl rfl ?_
  refine sq.c (v := .pointer (some ⟨b, 0, none⟩)) rfl rfl (by kernel_rfl) rfl ?_
  refine sq.op rfl rfl (Does.store (k := 1) (xs := [.pointer (some ⟨b, 0, none⟩)]) (cs' := [.pointer (some ⟨b, 0, none⟩), v]) hf (by kernel_rfl) rfl rfl rfl hb rfl rfl (Nat.le_of_ble_eq_true rfl) rfl) ?_
  rintro _ h11 n12 ⟨rfl, hb10⟩ s13 hn2 hf
  refine sq.w0 ?_
  have hs := hs.at (by simp) s13
  have hn := Nat.le_trans hn hn2
  refine sq.e ?_
  refine ⟨rfl, [], rfl, undef, rfl, hs, hn, ?_⟩
  exact ⟨rfl, hb10⟩
theorem f81_own {h : Heap} {n : Nat} {b : Nat} {v : Value} (hb : h.get b = some (.cells [.pointer (some ⟨b, 0, none⟩), v] true BCI)) :
    Makes Tryz.prog 81 [.pointer (some ⟨b, 0, none⟩)] h n ([b]) (fun u h2 _ => u = undef ∧ h2.get b = some (.cells [.pointer (some ⟨b, 0, none⟩), v] true BCI)) := by
  refine Makes.free fun hf => ?_
  have hs : SubBut h h ([b]) := .refl _ _
  have hn : n ≤ n := Nat.le_refl _
  have hf0 := hf
  refine Makes.of_bodyV (args := [.pointer (some ⟨b, 0, none⟩)]) (vs := [.pointer (some ⟨b, 0, none⟩), undef, undef, undef, undef, undef, undef, undef, undef, undef, undef, undef, undef, undef, undef, undef, undef, undef, undef, undef]) Tryz.func81 rfl rfl ?_
  refine AWp.seq (AWp.rowV (l := _) pok ?_)
  refine sq.c (v := .pointer (some ⟨b, 0, none⟩)) rfl rfl rfl rfl ?_
  refine sq.c (v := .pointer (some ⟨b, 0, none⟩)) rfl rfl rfl rfl ?_
  refine sq.c (v := .pointer (some ⟨b, 0, none⟩)) rfl rfl (by kernel_rfl) rfl ?_
  refine sq.c (v := .pointer (some ⟨b, 0, none⟩)) rfl rfl (ld1 (P := Tryz.prog) (t := 70) (p := 0) (v := .pointer (some ⟨b, 0, none⟩)) (by kernel_rfl) (by kernel_rfl) hb rfl) rfl ?_
  refine sq.c (v := .bool false) rfl rfl (by kernel_rfl) rfl ?_
  refine sq.e ?_
  refine AWp.condF rfl rfl ?_
  refine AWp.seq (AWp.rowV (l := _) pok ?_)
  refine sq.c (v := .pointer (some ⟨b, 0, none⟩)) rfl rfl rfl rfl ?_
  refine sq.c (v := .pointer (some ⟨b, 0, none⟩)) rfl rfl rfl rfl ?_
  refine sq.c (v := .pointer (some ⟨b, 0, none⟩)) rfl rfl (by kernel_rfl) rfl ?_
  refine sq.c (v := .pointer (some ⟨b, 0, none⟩)) rfl rfl (ld1 (P := Tryz.prog) (t := 70) (p := 0) (v := .pointer (some ⟨b, 0, none⟩)) (by kernel_rfl) (by kernel_rfl) hb rfl) rfl ?_
  refine sq.c (v := .pointer (some ⟨b, 0, none⟩)) rfl rfl rfl rfl ?_
  refine sq.c (v := .bool false) rfl rfl (ptr_neq_self (e := 72) (k := 2) (by kernel_rfl) (by kernel_rfl) (by decide)) rfl ?_
  refine sq.e ?_
  refine AWp.condF rfl rfl ?_
  refine AWp.skip ?_
  refine ⟨rfl, [], rfl, undef, rfl, hs, hn, ?_⟩
  exact ⟨rfl, hb⟩
end Go.Proofs.YtkpjfibpaojelaaGreatDoor
