/- The operations that read no memory, in one function. -/
import Derived.Test.YtkpjfibpaojelaaGreatDoorAbs8
namespace Go.Abs
open Go

def convE (P : Program) (s d : TypeId) (x : Value) : Option Value :=
  match P.underlying s, P.underlying d, x with
  | some _, some (.int k), .int _ n => some (.int k (k.wrap n))
  | some _, some .string, .string b => some (.string b)
  | _, _, _ => if flat x then flatRun P (convert s d x) else none

theorem convE_sound {P : Program} {μ : Mu} {s d : TypeId} {x x' v : Value} (hx : VRel μ x x') (e : convE P s d x = some v) (w : World) : (convert s d x').run P w = .ok v w ∧ VRel μ v v := by
  unfold convE at e
  split at e
  · rename_i ds k k' n h1 h2
    cases e
    cases hx
    exact ⟨by simp [convert, run_underlying_of h1, run_underlying_of h2, Conv.intToInt], .int _ _⟩
  · rename_i ds b h1 h2
    cases e
    cases hx
    exact ⟨by simp [convert, run_underlying_of h1, run_underlying_of h2], .string _⟩
  · split at e
    · rename_i hf
      rw [hx.flat_eq hf]
      exact flatRun_sound e μ w
    · cases e

def unE (P : Program) (op : UnOp) (x : Value) : Option Value :=
  match op, x with
  | .not, .bool b => some (.bool (!b))
  | .neg, .int k n => some (.int k (k.wrap (0 - n)))
  | op, x => if flat x then flatRun P (Op.unary op x) else none

theorem unE_sound {P : Program} {μ : Mu} {op : UnOp} {x x' v : Value} (hx : VRel μ x x') (e : unE P op x = some v) (w : World) : (Op.unary op x').run P w = .ok v w ∧ VRel μ v v := by
  unfold unE at e
  split at e
  · cases e; cases hx; exact ⟨rfl, .bool _⟩
  · cases e; cases hx; exact ⟨rfl, .int _ _⟩
  · split at e
    · rename_i hf
      rw [hx.flat_eq hf]
      exact flatRun_sound e μ w
    · cases e

def fieldE (P : Program) (t : TypeId) (x : Value) (f : Nat) : Option Value :=
  match P.underlying t, x with
  | some (.struct fields), .agg cs =>
    match fields[f]? with
    | some fd => match isAggE P fd.type, P.info? fd.type with
      | some true, some i => if fd.offset + i.size ≤ cs.toList.length then some (.agg ((cs.toList.drop fd.offset).take i.size).toArray) else none
      | some false, some _ => cs.toList[fd.offset]?
      | _, _ => none
    | none => none
  | _, _ => none

theorem part_sound {P : Program} {μ : Mu} {t : TypeId} {cs cs' : Array Value} (hc : ARel μ cs cs') {o : Nat} {v : Value} (w : World) (e : (match isAggE P t, P.info? t with
      | some true, some i => if o + i.size ≤ cs.toList.length then some (Value.agg ((cs.toList.drop o).take i.size).toArray) else none
      | some false, some _ => cs.toList[o]?
      | _, _ => none) = some v) : ∃ v', (part t cs' o).run P w = .ok v' w ∧ VRel μ v v' := by
  split at e
  · rename_i i e1 e2
    split at e
    · rename_i hle
      cases e
      refine ⟨.agg (cs'.extract o (o + i.size)), ?_, ?_⟩
      · simp [part, run_isAgg_of e1, run_sizeOf_of e2]
      · refine ARel.agg ?_
        have : cs'.extract o (o + i.size) = ((cs'.toList.drop o).take i.size).toArray := by
          apply Array.ext'
          simp [Array.toList_extract, List.extract_eq_take_drop]
        rw [this]
        refine LRel.arr (LRel.of_get ?_ ?_)
        · have := hc.1; simp; omega
        · intro j a b ha hb
          rw [List.getElem?_take] at ha hb
          split at ha
          · rename_i hj
            rw [if_pos hj] at hb
            rw [List.getElem?_drop] at ha hb
            exact hc.2 (o + j) a b (by simpa using ha) (by simpa using hb)
          · cases ha
    · cases e
  · rename_i i e1 e2
    obtain ⟨v', q1, q2⟩ := hc.get (i := o) (a := v) (by simpa using e)
    exact ⟨v', by simp [part, run_isAgg_of e1, q1], q2⟩
  · cases e

theorem fieldE_sound {P : Program} {μ : Mu} {t : TypeId} {x x' v : Value} {f : Nat} (hx : VRel μ x x') (e : fieldE P t x f = some v) (w : World) : ∃ v', (Instr.field t x' f).run P w = .ok v' w ∧ VRel μ v v' := by
  unfold fieldE at e
  split at e
  · rename_i fields cs hu
    cases hx with
    | agg hc hc' =>
      split at e
      · rename_i fd hfd
        obtain ⟨v', q1, q2⟩ := part_sound (P := P) ⟨hc, hc'⟩ w e
        refine ⟨v', ?_, q2⟩
        simp only [Instr.field, Sem.run_bind, run_underlying_of hu, Result.andThen_ok, hfd, asAgg, Sem.run_pure]
        exact q1
      · cases e
  · cases e

def fieldAddrE (P : Program) (s : TypeId) (x : Value) (f : Nat) : Option Value :=
  match P.underlying s, x with
  | some (.struct fields), .pointer (some ⟨b, o, none⟩) =>
    match fields[f]? with
    | some fd => match P.info? fd.type with
      | some i => if i.size = 0 then none else some (.pointer (some ⟨b, o + fd.offset, none⟩))
      | none => none
    | none => none
  | _, _ => none

theorem fieldAddrE_sound {P : Program} {μ : Mu} {t : TypeId} {x x' v : Value} {f : Nat} (hx : VRel μ x x') (e : fieldAddrE P t x f = some v) (w : World) : ∃ v', (Instr.fieldAt t x' f).run P w = .ok v' w ∧ VRel μ v v' := by
  unfold fieldAddrE at e
  split at e
  · rename_i fields b o hu
    cases hx with
    | ptr o hm =>
      split at e
      · rename_i fd hfd
        split at e
        · rename_i i hi
          split at e
          · cases e
          · rename_i hs
            cases e
            refine ⟨_, ?_, .ptr _ hm⟩
            simp [Instr.fieldAt, run_underlying_of hu, hfd, Instr.sureAddr, fieldPlace, run_sizeOf_of hi, hs, Addr.add_plain, Nat.add_assoc]
        · cases e
      · cases e
  · cases e

def indexAddrE (P : Program) (t : TypeId) (x ix : Value) : Option Value :=
  match P.underlying t, x, ix with
  | some (.slice elem), .slice (some ⟨b, o, none⟩) len _, .int _ i =>
    match P.info? elem with
    | some inf => if 0 ≤ i ∧ i < len then some (.pointer (some ⟨b, o + i.toNat * inf.size, none⟩)) else none
    | none => none
  | some (.array len elem), .pointer (some ⟨b, o, none⟩), .int _ i =>
    match P.info? elem with
    | some inf => if 0 ≤ i ∧ i < len then some (.pointer (some ⟨b, o + i.toNat * inf.size, none⟩)) else none
    | none => none
  | _, _, _ => none

theorem indexAddrE_sound {P : Program} {μ : Mu} {t : TypeId} {x x' ix ix' v : Value} (hx : VRel μ x x') (hi : VRel μ ix ix') (e : indexAddrE P t x ix = some v) (w : World) : ∃ v', (Instr.indexAt t x' ix').run P w = .ok v' w ∧ VRel μ v v' := by
  unfold indexAddrE at e
  split at e
  · rename_i elem b o len cap k i hu
    cases hi
    cases hx with
    | slice o len cap cap' hm hc =>
      split at e
      · rename_i inf hinf
        split at e
        · rename_i hb
          cases e
          refine ⟨_, ?_, .ptr _ hm⟩
          simp [Instr.indexAt, asIntOf, run_underlying_of hu, hb, run_sizeOf_of hinf, Addr.add_plain, Nat.add_assoc]
        · cases e
      · cases e
  · rename_i len elem b o k i hu
    cases hi
    cases hx with
    | ptr o hm =>
      split at e
      · rename_i inf hinf
        split at e
        · rename_i hb
          cases e
          refine ⟨_, ?_, .ptr _ hm⟩
          simp [Instr.indexAt, asIntOf, run_underlying_of hu, Instr.sureAddr, hb, run_sizeOf_of hinf, Addr.add_plain, Nat.add_assoc]
        · cases e
      · cases e
  · cases e

def indexE (P : Program) (t : TypeId) (x ix : Value) : Option Value :=
  match P.underlying t, x, ix with
  | some (.array len elem), .agg cs, .int _ i =>
    match P.info? elem with
    | some inf => if 0 ≤ i ∧ i < len then (match isAggE P elem, P.info? elem with
      | some true, some j => if i.toNat * inf.size + j.size ≤ cs.toList.length then some (Value.agg ((cs.toList.drop (i.toNat * inf.size)).take j.size).toArray) else none
      | some false, some _ => cs.toList[i.toNat * inf.size]?
      | _, _ => none) else none
    | none => none
  | some .string, .string s, .int _ i =>
    if 0 ≤ i then (match s.data.toList[i.toNat]? with
      | some b => some (.int .u8 b.toNat)
      | none => none) else none
  | _, _, _ => none

theorem indexE_sound {P : Program} {μ : Mu} {t : TypeId} {x x' ix ix' v : Value} (hx : VRel μ x x') (hi : VRel μ ix ix') (e : indexE P t x ix = some v) (w : World) : ∃ v', (Instr.index t x' ix').run P w = .ok v' w ∧ VRel μ v v' := by
  unfold indexE at e
  split at e
  · rename_i len elem cs k i hu
    cases hi
    cases hx with
    | agg hc hc' =>
      split at e
      · rename_i inf hinf
        split at e
        · rename_i hb
          obtain ⟨v', q1, q2⟩ := part_sound (P := P) (t := elem) ⟨hc, hc'⟩ w e
          refine ⟨v', ?_, q2⟩
          simp [Instr.index, asIntOf, run_underlying_of hu, hb, run_sizeOf_of hinf, q1]
        · cases e
      · cases e
  · rename_i s k i hu
    cases hi; cases hx
    split at e
    · rename_i h0
      split at e
      · rename_i b hb
        cases e
        refine ⟨_, ?_, .int _ _⟩
        have hlt : i.toNat < s.size := by
          have := (List.getElem?_eq_some_iff.1 hb).1
          simpa using this
        have hb2 : s[i.toNat]? = some b := by
          rw [getElem?_pos s i.toNat hlt]
          obtain ⟨h1, h2⟩ := List.getElem?_eq_some_iff.1 hb
          congr 1
        simp [Instr.index, asIntOf, run_underlying_of hu, h0, hb2]
      · cases e
    · cases e
  · cases e

def assertE (P : Program) (x : Value) (asserted : TypeId) (ok : Bool) : Option Value :=
  match P.underlying asserted, x with
  | some (.interface _), _ => none
  | some _, .nilIface => if ok then (match P.info? asserted with
    | some i => match i.zero with
      | some z => if flat z then some (.tuple #[z, .bool false]) else none
      | none => none
    | none => none) else none
  | some _, .iface t v => if t = asserted then some (if ok then .tuple #[v, .bool true] else v)
    else if ok then (match P.info? asserted with
      | some i => match i.zero with
        | some z => if flat z then some (.tuple #[z, .bool false]) else none
        | none => none
      | none => none) else none
  | _, _ => none

theorem pair_rel {μ : Mu} {a b c d : Value} (h : VRel μ a b) (k : VRel μ c d) : VRel μ (.tuple #[a, c]) (.tuple #[b, d]) :=
  (LRel.arr (.cons h (.cons k .nil))).tuple

theorem assertE_sound {P : Program} {μ : Mu} {xt asserted : TypeId} {ok : Bool} {x x' v : Value} (hx : VRel μ x x') (e : assertE P x asserted ok = some v) (w : World) :
    ∃ v', (Instr.typeAssert x' xt asserted ok).run P w = .ok v' w ∧ VRel μ v v' := by
  unfold assertE at e
  split at e
  · cases e
  · rename_i d hni hu
    cases hx
    cases ok with
    | false => simp at e
    | true =>
      simp only [if_true] at e
      split at e
      · rename_i i hi
        split at e
        · rename_i z hz
          split at e
          · rename_i hf
            cases e
            refine ⟨_, ?_, pair_rel (.flat_self hf) (.bool false)⟩
            simp only [Instr.typeAssert, Sem.run_bind, run_underlying_of hu, Result.andThen_ok]
            cases d <;> first | exact (hni _ rfl).elim | simp [run_zeroValue_of hi hz]
          · cases e
        · cases e
      · cases e
  · rename_i d t v0 hni hu
    cases hx with
    | iface t hv =>
      split at e
      · rename_i ht
        cases e
        cases ok with
        | false =>
          refine ⟨_, ?_, hv⟩
          simp only [Instr.typeAssert, Sem.run_bind, run_underlying_of hu, Result.andThen_ok]
          cases d <;> first | exact (hni _ rfl).elim | simp [ht]
        | true =>
          refine ⟨_, ?_, pair_rel hv (.bool true)⟩
          simp only [Instr.typeAssert, Sem.run_bind, run_underlying_of hu, Result.andThen_ok]
          cases d <;> first | exact (hni _ rfl).elim | simp [ht]
      · rename_i ht
        cases ok with
        | false => simp at e
        | true =>
          simp only [if_true] at e
          split at e
          · rename_i i hi
            split at e
            · rename_i z hz
              split at e
              · rename_i hf
                cases e
                refine ⟨_, ?_, pair_rel (.flat_self hf) (.bool false)⟩
                simp only [Instr.typeAssert, Sem.run_bind, run_underlying_of hu, Result.andThen_ok]
                cases d <;> first | exact (hni _ rfl).elim | simp [run_zeroValue_of hi hz, ht]
              · cases e
            · cases e
          · cases e
  · cases e

def extractE (x : Value) (i : Nat) : Option Value :=
  match x with
  | .tuple vs => vs.toList[i]?
  | _ => none

theorem extractE_sound {P : Program} {μ : Mu} {x x' v : Value} {i : Nat} (hx : VRel μ x x') (e : extractE x i = some v) (w : World) : ∃ v', (Instr.extract x' i).run P w = .ok v' w ∧ VRel μ v v' := by
  unfold extractE at e
  split at e
  · cases hx with
    | tuple hc hc' =>
      obtain ⟨v', q1, q2⟩ := ARel.get ⟨hc, hc'⟩ (i := i) (a := v) (by simpa using e)
      exact ⟨v', by simp [Instr.extract, q1], q2⟩
  · cases e

/-- len and cap of what is told by the value alone. -/
def lenE (P : Program) (ts : List TypeId) (args : List Value) : Option Value :=
  match ts, args with
  | t :: _, [x] => match P.underlying t, x with
    | some .string, .string s => some (.int .i64 s.data.toList.length)
    | some (.slice _), .slice _ n _ => some (.int .i64 n)
    | some (.array n _), _ => some (.int .i64 n)
    | _, _ => none
  | _, _ => none

theorem lenE_sound {P : Program} {μ : Mu} {ts : Array TypeId} {args args' : List Value} {v : Value} (ha : LRel μ args args') (e : lenE P ts.toList args = some v) (w : World) (ty : TypeId) :
    (Builtin.len_ ts ty args'.toArray).run P w = .ok v w ∧ VRel μ v v := by
  unfold lenE at e
  split at e
  · rename_i t rest x hts
    cases ha with
    | cons hx ht =>
      cases ht
      have h0 : ts[0]? = some t := by rw [← Array.getElem?_toList, hts]; rfl
      split at e
      · rename_i s hu
        cases e; cases hx
        exact ⟨by simp [Builtin.len_, h0, run_underlying_of hu, goInt], .int _ _⟩
      · rename_i b n c el hu
        cases e
        cases hx <;> exact ⟨by simp [Builtin.len_, h0, run_underlying_of hu, goInt], .int _ _⟩
      · rename_i n el hu
        cases e
        exact ⟨by simp [Builtin.len_, h0, run_underlying_of hu, goInt], .int _ _⟩
      · cases e
  · cases e

end Go.Abs
