/- The weakest precondition of an operation, of a region, of a function. -/
import Derived.Test.YtkpjfibpaojelaaGreatDoorAbs18
namespace Go.Abs
open Go

/-- How a function's call is told. -/
abbrev CallW := FuncId → List Value → Heap → Nat → (AEnd → Heap → Nat → Prop) → Prop

def acall (P : Program) : CallW := fun f args h n Q => ACall P f args.toArray h n Q

/-- What an operation that acts comes to. -/
def resW (C : CallW) (o : Oper) (fr : AAct) (K : ANextK) (Qp : Value → Heap → Nat → Prop) : ARes × Heap × Nat → Prop
  | (.val v, h', n') => K (fr.put o.dst v) h' n'
  | (.skip, h', n') => K (fr.put o.dst undef) h' n'
  | (.ent f args, h', n') => C f args h' n' fun r h'' n'' => match r with
    | .ret v => K (fr.put o.dst v) h'' n''
    | .pan v => Qp v h'' n''
  | (.dfr d, h', n') => K (({ fr with defers := d :: fr.defers } : AAct).put o.dst undef) h' n'
  | (.pan v, h', n') => Qp v h' n'

def opW (P : Program) (C : CallW) (ops : Array Oper) (o : Oper) (fr : AAct) (h : Heap) (n : Nat) (K : ANextK) (Qp : Value → Heap → Nat → Prop) : Prop :=
  if wantedA ops o fr then
    okOper P.globals.size o = true ∧ match calmE P o fr.eval h with
      | some v => K (fr.put o.dst v) h n
      | none => match actE P o fr.eval h n with
        | some x => resW C o fr K Qp x
        | none => False
  else K (fr.put o.dst undef) h n

theorem AOp.of_opW {P : Program} (ok : POk P) {ops : Array Oper} {Q : APost} {j : Nat} {o : Oper} {K : ANextK} {fr : AAct} {h : Heap} {n : Nat} (ho : ops[j]? = some o)
    (hq : opW P (acall P) ops o fr h n K (fun v h' n' => Q (.pan v) fr h' n')) : AOp P ops Q j K fr h n := by
  unfold opW at hq
  split at hq
  · rename_i hw
    obtain ⟨hok, hq⟩ := hq
    split at hq
    · rename_i v hv
      exact AOp.calm ho (by unfold Calm; rw [if_pos hw]; exact ⟨hok, calmE_sound hv⟩) hq
    · split at hq
      · rename_i x hx
        intro μ a w hf hr
        obtain ⟨μ', w', hn, hr', hg, hle⟩ := actE_sound ok hr (okOper_rel hok hf hr) hx
        unfold wpOp
        simp only [ho]
        rw [wanted_rel hf, hw]
        simp only [if_true]
        refine .inl ?_
        unfold Oper.wp
        obtain ⟨res, h', n'⟩ := x
        simp only at hn hr' hg hle
        generalize (execOp a.eval o).run P w = z at hn
        cases hn with
        | val hv =>
          rename_i v v'
          simp only [Oper.upon]
          exact ⟨μ', _, h', n', (hf.mono hg.le).put _ hv, hr', hg, hle, ⟨fr.defers, v, by simp [ho]⟩, hq⟩
        | skip =>
          simp only [Oper.upon]
          exact ⟨μ', _, h', n', (hf.mono hg.le).put _ (undef_rel μ'), hr', hg, hle, ⟨fr.defers, undef, by simp [ho]⟩, hq⟩
        | ent ha =>
          rename_i f as as'
          simp only [Oper.upon]
          refine (hq μ' as'.toArray w' ha.arr hr').mono ?_
          rintro e w'' ⟨μ2, h2, n2, r2, he, hr2, hg2, hn2, k⟩
          cases he with
          | ret hv =>
            rename_i v v'
            exact ⟨μ2, _, h2, n2, (hf.mono (Mu.le_trans hg.le hg2.le)).put _ hv, hr2, hg.trans hg2, Nat.le_trans hle hn2, ⟨fr.defers, v, by simp [ho]⟩, k⟩
          | pan hv =>
            exact ⟨μ2, _, fr, h2, n2, .pan hv, hf.mono (Mu.le_trans hg.le hg2.le), hr2, hg.trans hg2, Nat.le_trans hle hn2, rfl, k⟩
        | dfr hd =>
          rename_i d d'
          simp only [Oper.upon]
          have hf' := hf.mono hg.le
          have hf2 : FRel μ' ({ fr with defers := d :: fr.defers } : AAct) ({ a with defers := d' :: a.defers } : Act) := ⟨hf'.size, hf'.get, .cons hd hf'.defers⟩
          exact ⟨μ', _, h', n', hf2.put _ (undef_rel μ'), hr', hg, hle, ⟨d :: fr.defers, undef, by simp [ho]⟩, hq⟩
        | pan hv =>
          simp only [Oper.upon]
          exact ⟨μ', _, fr, h', n', .pan hv, hf.mono hg.le, hr', hg, hle, rfl, hq⟩
      · exact hq.elim
  · rename_i hw
    exact AOp.calm ho (by unfold Calm; rw [if_neg hw]) hq

theorem resW_mono {P : Program} {o : Oper} {fr : AAct} {K K' : ANextK} {Qp Qp' : Value → Heap → Nat → Prop} (hk : ∀ fr h n, K fr h n → K' fr h n) (hp : ∀ v h n, Qp v h n → Qp' v h n) {x : ARes × Heap × Nat}
    (q : resW (acall P) o fr K Qp x) : resW (acall P) o fr K' Qp' x := by
  obtain ⟨res, h', n'⟩ := x
  cases res with
  | val v => exact hk _ _ _ q
  | skip => exact hk _ _ _ q
  | ent f args =>
    refine ACall.mono q ?_
    intro r h'' n'' _ _ q'
    refine ⟨h'', Heap.sub_refl _, ?_⟩
    cases r with
    | ret v => exact hk _ _ _ q'
    | pan v => exact hp _ _ _ q'
  | dfr d => exact hk _ _ _ q
  | pan v => exact hp _ _ _ q

theorem opW_mono {P : Program} {ops : Array Oper} {o : Oper} {fr : AAct} {h : Heap} {n : Nat} {K K' : ANextK} {Qp : Value → Heap → Nat → Prop} (hk : ∀ fr h n, K fr h n → K' fr h n)
    (q : opW P (acall P) ops o fr h n K Qp) : opW P (acall P) ops o fr h n K' Qp := by
  unfold opW at *
  split
  · rename_i hw
    rw [if_pos hw] at q
    refine ⟨q.1, ?_⟩
    have q2 := q.2
    split
    · rename_i v hv; rw [hv] at q2; exact hk _ _ _ q2
    · rename_i hv
      rw [hv] at q2
      simp only at q2
      split
      · rename_i x hx; rw [hx] at q2; exact resW_mono hk (fun _ _ _ q => q) q2
      · rename_i hx; rw [hx] at q2; exact q2
  · rename_i hw
    rw [if_neg hw] at q
    exact hk _ _ _ q

/-- A region in the text's row. -/
def seqW (P : Program) (C : CallW) (ops : Array Oper) (Q : APost) : List Oper → ANextK
  | [], fr, h, n => Q .normal fr h n
  | o :: rest, fr, h, n => opW P C ops o fr h n (seqW P C ops Q rest) (fun v h' n' => Q (.pan v) fr h' n')

theorem AOps.of_seqW {P : Program} (ok : POk P) {ops : Array Oper} {Q : APost} : ∀ (l : List Oper) (k : Nat) (fr : AAct) (h : Heap) (n : Nat), (∀ j o, l[j]? = some o → ops[k + j]? = some o) →
    seqW P (acall P) ops Q l fr h n → AOps P ops Q (List.range' k l.length) fr h n := by
  intro l
  induction l with
  | nil => intro k fr h n _ q; exact q
  | cons o rest ih =>
    intro k fr h n hl q
    simp only [List.length_cons, List.range'_succ]
    refine AOp.of_opW ok (hl 0 o (by simp)) ?_
    refine opW_mono ?_ q
    intro fr' h' n' q'
    exact ih (k + 1) fr' h' n' (fun j o hj => by have := hl (j + 1) o (by simpa using hj); rw [show k + 1 + j = k + (j + 1) by omega]; exact this) q'

theorem AWp.seq_region {P : Program} (ok : POk P) {id : Nat} {l : List Oper} {Q : APost} {fr : AAct} {h : Heap} {n : Nat} (q : seqW P (acall P) l.toArray Q l fr h n) : AWp P (.region id l.toArray false) Q fr h n := by
  refine AWp.region ?_
  have := AOps.of_seqW ok (ops := l.toArray) l 0 fr h n (fun j o hj => by simpa using hj) q
  rw [List.range_eq_range']
  simpa using this
end Go.Abs
