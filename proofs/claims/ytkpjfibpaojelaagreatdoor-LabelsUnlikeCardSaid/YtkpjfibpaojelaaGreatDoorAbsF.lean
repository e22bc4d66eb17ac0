/- AbsF: the abstract semantics over the model, parts 34 to 34. -/
import Derived.Test.YtkpjfibpaojelaaGreatDoorAbsE

/- Regions whose order is drawn, in which blocks turn that are not read: what is kept, told block by block. -/
namespace Go.Abs
open Go

/-- These blocks stay. -/
def KeepK (K : List Nat) (h h' : Heap) : Prop := ∀ b ∈ K, ∀ o, h.get b = some o → h'.get b = some o
theorem KeepK.refl (K : List Nat) (h : Heap) : KeepK K h h := fun _ _ _ e => e
theorem KeepK.trans {K : List Nat} {h h1 h2 : Heap} (a : KeepK K h h1) (b : KeepK K h1 h2) : KeepK K h h2 := fun c hc o e => b c hc o (a c hc o e)
theorem KeepK.of {K S : List Nat} {h h1 : Heap} (hK : ∀ b ∈ K, b ∉ S) (s : SubBut h h1 S) : KeepK K h h1 := fun c hc o e => s c o (hK c hc) e
theorem keepN {S : List Nat} : ∀ b ∈ ([] : List Nat), b ∉ S := fun _ h => by cases h
theorem keepC {S K : List Nat} {b : Nat} (h : b ∉ S) (k : ∀ c ∈ K, c ∉ S) : ∀ c ∈ b :: K, c ∉ S := fun c hc => (List.mem_cons.1 hc).elim (fun e => e ▸ h) (k c)

theorem rowE_keep {h h' : Heap} {b o k : Nat} {xs : List Value} (q : ∀ o, h.get b = some o → h'.get b = some o) (e : rowE h b o k = some xs) : rowE h' b o k = some xs := by
  unfold rowE at *
  split at e
  · rename_i hk; rw [if_pos hk]; exact e
  · rename_i hk
    rw [if_neg hk]
    cases hb : h.get b with
    | none => rw [hb] at e; cases e
    | some x => rw [hb] at e; rw [q x hb]; exact e
/-- The rest of a region in any row; what was read lies in blocks that stay. -/
structure DK (P : Program) (ops : Array Oper) (Q : APost) (K : List Nat) (plan : List Nat) (vs : List Value) (h : Heap) (n : Nat) : Prop where
  run : ∀ inv : Inv, (∀ x ∈ inv, ∀ h', KeepK K h h' → x.2 h') → drawW P (acall P) ops Q plan inv (frameV vs) h n

section
variable {P : Program} {Q : APost} {vs vs' : List Value} {h : Heap} {n : Nat} {ops : Array Oper} {o : Oper} {d : Nat} {K S S' : List Nat} {i : Nat} {plan : List Nat} {R : Value → Heap → Nat → Prop} {v : Value} {f : FuncId} {xs : List Value} {l : List Oper}
theorem AWp.anyK (ok : POk P) {id : Nat} (plan : List Nat) (hsel : Region.noSelect ops = true) (hp : planOk P ops plan (Array.replicate ops.size false) = true) (hlen : plan.length = ops.size) (hpan : PanExt [] Q)
    (q : DK P ops Q [] plan vs h n) : AWp P (.region id ops true) Q (frameV vs) h n :=
  AWp.draw_region ok plan hsel hp hlen (S := []) (avoids_nil ops) hpan (q.run [] (by simp))
theorem dk.e (q : Q .normal (frameV vs) h n) : DK P ops Q K [] vs h n := ⟨fun _ _ => q⟩
theorem dk.c {v : Value} (ho : l[i]? = some o) (hk : kindOf P o = 1) (hw : wantedA l.toArray o (frameV vs) = true) (hok : okOper P.globals.size o = true) (hv : calmE P o (evalV vs) h = some v) (hd : o.dst = some d) [z : SetL vs d v vs']
    (k : DK P l.toArray Q K plan vs' h n) : DK P l.toArray Q K (i :: plan) vs h n := by
  refine ⟨fun inv hinv => ?_⟩
  have hz : vs' = setV vs o.dst v := by rw [hd]; exact z.eq.symm
  rw [hz] at k
  simp only [drawW, at_arr ho, hk, if_neg (show ¬ (1 : Nat) = 0 by decide), hw, if_true, frameV_eval, frameV_put]
  refine ⟨hok, ?_⟩
  rw [hv]
  exact k.run inv hinv
theorem dk.gB {v : Value} (b : Nat) (ho : l[i]? = some o) (hk : (kindOf P o != 0) = true) (hw : wantedA l.toArray o (frameV vs) = true) (hok : okOper P.globals.size o = true) (hv : ∀ h', (∀ o, h.get b = some o → h'.get b = some o) → calmE P o (evalV vs) h' = some v) (hd : o.dst = some d) [z : SetL vs d v vs']
    (k : DK P l.toArray Q (b :: K) plan vs' h n) : DK P l.toArray Q K (i :: plan) vs h n := by
  refine ⟨fun inv hinv => ?_⟩
  have hk' : kindOf P o ≠ 0 := by simpa using hk
  have hz : vs' = setV vs o.dst v := by rw [hd]; exact z.eq.symm
  rw [hz] at k
  simp only [drawW, at_arr ho, if_neg hk', hw, if_true, frameV_eval, frameV_put]
  refine ⟨hok, ?_⟩
  rw [hv h fun _ e => e]
  simp only
  have hinv' : ∀ x ∈ inv, ∀ h', KeepK (b :: K) h h' → x.2 h' := fun x hx h' hs => hinv x hx h' fun c hc => hs c (List.mem_cons_of_mem _ hc)
  split
  · exact k.run inv hinv'
  · refine k.run _ ?_
    intro x hx h' hs
    rcases List.mem_cons.1 hx with rfl | hx
    · exact hv h' (hs b (List.mem_cons_self ..))
    · exact hinv' x hx h' hs
theorem dk.skip' (hd : setV vs o.dst undef = vs') (ho : l[i]? = some o) (hw : wantedA l.toArray o (frameV vs) = false) (k : DK P l.toArray Q K plan vs' h n) : DK P l.toArray Q K (i :: plan) vs h n := by
  refine ⟨fun inv hinv => ?_⟩
  subst hd
  simp only [drawW, at_arr ho]
  split
  · simp only [opW, hw, Bool.false_eq_true, if_false, frameV_put]
    refine ⟨fun x hx => hinv x (List.mem_filter.1 hx).1 h (.refl K h), k.run _ fun x hx h' hs => hinv x (List.mem_filter.1 hx).1 h' hs⟩
  · simp only [hw, Bool.false_eq_true, if_false, frameV_put]
    exact k.run inv hinv
theorem dk.s (ho : l[i]? = some o) (hw : wantedA l.toArray o (frameV vs) = false) (hd : o.dst = some d) [z : SetL vs d undef vs'] (k : DK P l.toArray Q K plan vs' h n) : DK P l.toArray Q K (i :: plan) vs h n :=
  dk.skip' (by rw [hd]; exact z.eq) ho hw k
theorem dk.s0 (ho : l[i]? = some o) (hw : wantedA l.toArray o (frameV vs) = false) (hd : o.dst = none) (k : DK P l.toArray Q K plan vs h n) : DK P l.toArray Q K (i :: plan) vs h n :=
  dk.skip' (by rw [hd]; rfl) ho hw k
theorem dk.op (ho : l[i]? = some o) (hk : kindOf P o = 0) (hw : wantedA l.toArray o (frameV vs) = true) (hok : okOper P.globals.size o = true) (q : Does P o (evalV vs) h n S' R) (hK : ∀ b ∈ K, b ∉ S')
    (k : ∀ v h2 n2, R v h2 n2 → SubBut h h2 S' → n ≤ n2 → Free h2 n2 → DK P l.toArray Q K plan (setV vs o.dst v) h2 n2) : DK P l.toArray Q K (i :: plan) vs h n := by
  obtain ⟨hc, x, v, h', n', hv, hx, hs, hn, hf, hr⟩ := q
  have k := k v h' n' hr hs hn hf
  refine ⟨fun inv hinv => ?_⟩
  simp only [drawW, at_arr ho, hk, if_true, opW, hw, frameV_eval]
  refine ⟨hok, ?_⟩
  rw [hc, hv]
  have hs' := KeepK.of hK hs
  have k' := k.run (inv.filter fun x => !dep l.toArray i x.1) fun x hx h2 hs2 => hinv x (List.mem_filter.1 hx).1 h2 (hs'.trans hs2)
  have hq : ∀ x ∈ inv.filter (fun x => !dep l.toArray i x.1), x.2 h' := fun x hx => hinv x (List.mem_filter.1 hx).1 h' hs'
  rcases hx with rfl | ⟨rfl, rfl⟩
  · simp only [resW, frameV_put]; exact ⟨hq, k'⟩
  · simp only [resW, frameV_put]; exact ⟨hq, k'⟩
theorem dk.k (ho : l[i]? = some o) (hk : kindOf P o = 0) (hw : wantedA l.toArray o (frameV vs) = true) (hc : CallsF P o (evalV vs) f xs) (c : Makes P f xs h n S' R) (hK : ∀ b ∈ K, b ∉ S')
    (k : ∀ v h2 n2, R v h2 n2 → SubBut h h2 S' → n ≤ n2 → Free h2 n2 → DK P l.toArray Q K plan (setV vs o.dst v) h2 n2) : DK P l.toArray Q K (i :: plan) vs h n := by
  obtain ⟨hok, hc1, hc2⟩ := hc
  refine ⟨fun inv hinv => ?_⟩
  simp only [drawW, at_arr ho, hk, if_true, opW, hw, frameV_eval]
  refine ⟨hok, ?_⟩
  rw [hc1, hc2]
  simp only [resW]
  refine ACall.mono c ?_
  rintro r h1 n1 _ hfr ⟨v, rfl, hs, hn, hr⟩
  refine ⟨h1, Heap.sub_refl _, ?_⟩
  have hs' := KeepK.of hK hs
  simp only [frameV_put]
  exact ⟨fun x hx => hinv x (List.mem_filter.1 hx).1 h1 hs', (k v h1 n1 hr hs hn hfr).run _ fun x hx h2 hs2 => hinv x (List.mem_filter.1 hx).1 h2 (hs'.trans hs2)⟩
theorem dk.t {v : Value} (ho : l[i]? = some o) (hk : kindOf P o = 0) (hw : wantedA l.toArray o (frameV vs) = true) (hc : CallsF P o (evalV vs) f xs) (c : Free h n → Tells P f xs h n v) (hf : Free h n) (hd : o.dst = some d) [z : SetL vs d v vs']
    (k : ∀ n2, n ≤ n2 → Free h n2 → DK P l.toArray Q K plan vs' h n2) : DK P l.toArray Q K (i :: plan) vs h n := by
  refine dk.k ho hk hw hc (Tells.makes (S := []) (c hf)) (fun b _ hm => by simp at hm) ?_
  rintro u h2 n2 ⟨rfl, rfl⟩ _ hn hf2
  rw [hd, show setV vs (some d) u = vs' from z.eq]
  exact k n2 hn hf2
theorem dk.w [z : SetL vs d v vs'] (k : DK P ops Q K plan vs' h n) : DK P ops Q K plan (setV vs (some d) v) h n := by
  rw [show setV vs (some d) v = vs' from z.eq]; exact k
theorem dk.w0 (k : DK P ops Q K plan vs h n) : DK P ops Q K plan (setV vs none v) h n := k
end

theorem strOf_row {P : Program} {a b e : TypeId} {h : Heap} {v : Value} {bs : List UInt8} (hc : convE P a b (.slice none 0 0) = some (.string ⟨#[]⟩)) (ha : P.underlying a = some (.slice e)) (hb : P.underlying b = some .string) (he : P.underlying e = some (.int .u8)) (q : IsRow encByte h v bs) :
    (match convE P a b v with | some v => some v | none => strOfE P a b v h) = some (.string ⟨bs.toArray⟩) := by
  have h1 : ∀ x l c, convE P a b (.slice (some x) l c) = none := by
    intro x l c
    unfold convE
    rw [ha, hb]
    rfl
  have h2 := q.str ha hb he
  obtain ⟨x, c, rfl⟩ := q.slice
  cases x with
  | some x => rw [h1]; exact h2
  | none =>
    rcases q with ⟨rfl, e | ⟨b', o, cap, e⟩⟩ | ⟨b', o, cap, cs, own, ci, e, h1, h2, h3, h4⟩
    · cases e; rw [show (convE P a b (.slice none ([] : List UInt8).length 0)) = _ from hc]
    · cases e
    · cases e

/-- The first ones of a row. -/
theorem IsRow.take {α : Type} {E : Enc α} {P : Program} {t e : TypeId} {h : Heap} {a : Option Addr} {cp : Nat} {kd : IntKind} {xs : List α} {k : Nat} (hu : P.underlying t = some (.slice e)) (hi : (P.info? e).map (·.size) = some E.k)
    (q : IsRow E h (.slice a xs.length cp) xs) (hc : xs.length ≤ cp ∧ cp < U) (hk : k ≤ xs.length) :
    sliceE P t (.slice a xs.length cp) none (some (.int kd (k : Nat))) none h = some (.slice a (xs.take k).length cp) ∧ IsRow E h (.slice a (xs.take k).length cp) (xs.take k) := by
  have hl : (xs.take k).length = k := by rw [List.length_take]; omega
  have hinf : ∃ inf, P.info? e = some inf := by
    cases h40 : P.info? e with
    | none => rw [h40] at hi; cases hi
    | some inf => exact ⟨inf, rfl⟩
  obtain ⟨inf, h40⟩ := hinf
  have hb2 : boundE none k 0 = some 0 := rfl
  have hnil : a = none → xs = [] ∧ cp = 0 := by
    intro e
    subst e
    rcases q with ⟨rfl, e | ⟨b', o, cap, e⟩⟩ | ⟨b', o, cap, cs, own, ci, e, _⟩
    · cases e; exact ⟨rfl, rfl⟩
    · cases e
    · cases e
  have hprop : ∀ x, a = some x → x.spot = none := by
    intro x ex
    subst ex
    rcases q with ⟨rfl, e | ⟨b', o, cap, e⟩⟩ | ⟨b', o, cap, cs, own, ci, e, _⟩
    · cases e
    · cases e; rfl
    · cases e; rfl
  refine ⟨?_, ?_⟩
  · rw [hl]
    cases a with
    | none =>
      obtain ⟨rfl, rfl⟩ := hnil rfl
      obtain rfl : k = 0 := by simpa using hk
      unfold sliceE
      rw [hu]
      simp only [List.length_nil, h40, boundsE, boundE]
      rfl
    | some x =>
      obtain ⟨b, o, pth⟩ := x
      obtain rfl : pth = none := hprop _ rfl
      unfold sliceE
      rw [hu]
      simp only [h40]
      have hbl : boundE (some (.int kd (k : Nat))) cp xs.length = some k := by simp only [boundE]; rw [if_pos (by omega)]; simp
      rw [if_neg (by omega), if_neg (by omega), if_pos hc]
      simp only [boundsE, hbl, hb2, Option.getD_none]
      simp
  · rcases q with ⟨rfl, e | ⟨b', o, cap, e⟩⟩ | ⟨b', o, cap, cs, own, ci, e, h1, h2, h3, h4⟩
    · cases e; rw [List.take_nil]; exact .nil
    · cases e; rw [List.take_nil]; exact .empty
    · cases e
      have hm : E.k * k ≤ E.k * xs.length := Nat.mul_le_mul_left _ hk
      refine .inr ⟨b', o, cp, cs, own, ci, rfl, by omega, h2, ?_, ?_⟩
      · rw [hl, ← E.row_take, ← h3, List.take_take, Nat.min_eq_left hm]
      · rw [hl]; omega
end Go.Abs
