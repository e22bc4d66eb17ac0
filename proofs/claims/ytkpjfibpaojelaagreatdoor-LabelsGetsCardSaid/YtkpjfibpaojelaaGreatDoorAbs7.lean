/- Operations that read no memory: their values, by computing. -/
import Derived.Test.YtkpjfibpaojelaaGreatDoorAbs6
import Derived.Laws.Strings
namespace Go.Abs
open Go

/-! What asks nothing of the world. -/
def pureRun {α : Type} (P : Program) : Sem α → Option α
  | .pure a => some a
  | .program k => pureRun P (k P)
  | .mark _ k => pureRun P k
  | _ => none

theorem pureRun_run {α : Type} {P : Program} : ∀ (s : Sem α) {a : α} (w : World), pureRun P s = some a → s.run P w = .ok a w := by
  intro s
  induction s with
  | pure a => intro b w h; simp only [pureRun, Option.some.injEq] at h; subst h; rfl
  | program k ih => intro b w h; simp only [pureRun] at h; exact ih P w h
  | mark m k ih => intro b w h; simp only [pureRun] at h; exact ih w h
  | _ => intro b w h; simp [pureRun] at h

/-- Two strings, byte by byte. -/
def eqS (a b : ByteArray) : Bool := a.data.toList == b.data.toList
def lessS (a b : ByteArray) : Bool := Op.bytesLess a.data.toList b.data.toList

def intE (op : BinOp) (k : IntKind) (a b : Int) : Option Value :=
  match op with
  | .add => some (.int k (k.wrap (a + b)))
  | .sub => some (.int k (k.wrap (a - b)))
  | .mul => some (.int k (k.wrap (a * b)))
  | .quo => if b = 0 then none else some (.int k (k.wrap (a.tdiv b)))
  | .rem => if b = 0 then none else some (.int k (a.tmod b))
  | .and => some (.int k (k.wrap ((BitVec.ofInt k.bits a &&& BitVec.ofInt k.bits b).toNat)))
  | .or => some (.int k (k.wrap ((BitVec.ofInt k.bits a ||| BitVec.ofInt k.bits b).toNat)))
  | .xor => some (.int k (k.wrap ((BitVec.ofInt k.bits a ^^^ BitVec.ofInt k.bits b).toNat)))
  | .andNot => some (.int k (k.wrap ((BitVec.ofInt k.bits a &&& ~~~BitVec.ofInt k.bits b).toNat)))
  | .shl | .shr => none
  | .eql => some (.bool (decide (a = b)))
  | .neq => some (.bool (!decide (a = b)))
  | .lss => some (.bool (decide (a < b)))
  | .leq => some (.bool (decide (a ≤ b)))
  | .gtr => some (.bool (decide (b < a)))
  | .geq => some (.bool (decide (b ≤ a)))

def strE (op : BinOp) (a b : ByteArray) : Option Value :=
  match op with
  | .add => if a.size + b.size < 9223372036854775808 then some (.string (a ++ b)) else none
  | .eql => some (.bool (eqS a b))
  | .neq => some (.bool (!eqS a b))
  | .lss => some (.bool (lessS a b))
  | .leq => some (.bool (lessS a b || eqS a b))
  | .gtr => some (.bool (!(lessS a b || eqS a b)))
  | .geq => some (.bool (!lessS a b))
  | _ => none

/-- '==' where one side is nil, or both are places of one block. -/
def eqNilE (P : Program) (t : TypeId) (x y : Value) : Option Bool :=
  match P.underlying t, x, y with
  | some (.pointer _), .pointer none, .pointer b => some b.isNone
  | some (.pointer _), .pointer (some _), .pointer none => some false
  | some (.pointer e), .pointer (some ⟨b, o, none⟩), .pointer (some ⟨b', o', none⟩) =>
    match P.info? e with
    | some i => if i.size = 0 then none else if b = b' then some (decide (o = o')) else none
    | none => none
  | some (.slice _), .slice none _ _, .slice b _ _ => some b.isNone
  | some (.slice _), .slice (some _) _ _, .slice none _ _ => some false
  | some (.map _ _), .map none, .map b => some b.isNone
  | some (.map _ _), .map (some _), .map none => some false
  | some (.func _ _ _), .nilFunc, .func _ _ _ => some false
  | some (.func _ _ _), .func _ _ _, .nilFunc => some false
  | some (.interface _), .nilIface, .iface _ _ => some false
  | some (.interface _), .iface _ _, .nilIface => some false
  | _, _, _ => none

def isConst : Operand → Bool
  | .const _ => true
  | _ => false

/-- '==' of two values without an address. -/
def eqFlatE (P : Program) (op : BinOp) (t : TypeId) (cx cy : Bool) (x y : Value) : Option Bool :=
  if flat x && flat y then
    match pureRun P (do eqGuard op t (if cx then .const x else .tmp 0) (if cy then .const y else .tmp 0) x y; Op.equal t x y) with
    | some b => some b
    | none => none
  else none

def eqE (P : Program) (op : BinOp) (t : TypeId) (cx cy : Bool) (x y : Value) : Option Bool :=
  match eqNilE P t x y with
  | some b => some b
  | none => eqFlatE P op t cx cy x y

def binE (P : Program) (op : BinOp) (t : TypeId) (cx cy : Bool) (x y : Value) : Option Value :=
  match x, y with
  | .int k a, .int k' b =>
    match op with
    | .shl => if b < 0 then none else some (.int k (k.wrap (a * 2 ^ (min b.toNat k.bits))))
    | .shr => if b < 0 then none else some (.int k (a.fdiv (2 ^ (min b.toNat k.bits))))
    | op => if k = k' then intE op k a b else none
  | .string a, .string b => strE op a b
  | x, y =>
    match op with
    | .eql => (eqE P .eql t cx cy x y).map .bool
    | .neq => (eqE P .neq t cx cy x y).map fun b => .bool (!b)
    | _ => none

theorem run_binOp_int {P : Program} (op : BinOp) (t : TypeId) (k k' : IntKind) (a b : Int) (x y : Operand) (w : World) {v : Value} (e : (match op with
    | .shl => if b < 0 then none else some (.int k (k.wrap (a * 2 ^ (min b.toNat k.bits))))
    | .shr => if b < 0 then none else some (.int k (a.fdiv (2 ^ (min b.toNat k.bits))))
    | op => if k = k' then intE op k a b else none) = some v) :
    (do eqGuard op t x y (.int k a) (.int k' b); binOp op t (.int k a) (.int k' b)).run P w = .ok v w := by
  have hg : (eqGuard op t x y (.int k a) (.int k' b)).run P w = .ok () w := by
    unfold eqGuard
    split <;> rfl
  rw [Sem.run_bind, hg]
  simp only [Result.andThen_ok]
  by_cases hk : k = k'
  · subst hk
    cases op <;> simp only [if_true, intE] at e <;> (try split at e) <;> (first | (cases e; done) | skip) <;> (try (cases e)) <;>
      simp_all [binOp, Op.intArith, Op.intDiv, Op.intBits, Op.intCmp, Op.shift, bne] <;> first | rfl | (intro h; omega)
  · cases op <;> simp only [if_neg hk] at e <;> (try split at e) <;> (first | (cases e; done) | skip) <;> (try (cases e)) <;>
      simp_all [binOp, Op.shift] <;> (intro h; omega)

theorem eqS_eq (a b : ByteArray) : (a.toList == b.toList) = eqS a b := by unfold eqS; rw [ByteArray.toList_eq, ByteArray.toList_eq]
theorem lessS_eq (a b : ByteArray) : Op.bytesLess a.toList b.toList = lessS a b := by unfold lessS; rw [ByteArray.toList_eq, ByteArray.toList_eq]

theorem eqGuard_plain {P : Program} {op : BinOp} {t : TypeId} {x y : Operand} {a b : Value} (h1 : ¬ (a = .nilIface ∧ b = .nilIface)) (h2 : ∀ c d, ¬ (a = .agg c ∧ b = .agg d)) (w : World) :
    (eqGuard op t x y a b).run P w = .ok () w := by
  unfold eqGuard
  cases op <;> first
    | (simp only [Bool.not_false, if_true]; rfl)
    | (simp only [Bool.not_true, Bool.false_eq_true, if_false]
       split
       · exact (h1 ⟨rfl, rfl⟩).elim
       · exact (h2 _ _ ⟨rfl, rfl⟩).elim
       · rfl)

theorem run_binOp_str {P : Program} (op : BinOp) (t : TypeId) (a b : ByteArray) (x y : Operand) (w : World) {v : Value} (e : strE op a b = some v) :
    (do eqGuard op t x y (.string a) (.string b); binOp op t (.string a) (.string b)).run P w = .ok v w := by
  rw [Sem.run_bind, eqGuard_plain (by simp) (by simp)]
  simp only [Result.andThen_ok]
  cases op <;> simp only [strE] at e <;> (try split at e) <;> (first | (cases e; done) | skip) <;> (try (cases e)) <;>
    simp only [binOp, Op.stringOp, eqS_eq, lessS_eq] <;> (try rfl)
  rename_i h
  rw [if_neg]
  · rfl
  · simp [IntKind.max, IntKind.signed, IntKind.bits]; omega

theorem run_equal_nil {P : Program} {μ : Mu} {t : TypeId} {x y x' y' : Value} (hx : VRel μ x x') (hy : VRel μ y y') {b : Bool} (e : eqNilE P t x y = some b) (w : World) :
    (Op.equal t x' y').run P w = .ok b w := by
  unfold Op.equal
  obtain ⟨d, hd⟩ : ∃ d, Op.maxDepth = d + 1 := ⟨9999, rfl⟩
  rw [hd]
  clear hd
  unfold eqNilE at e
  split at e <;> (try (cases e; done))
  all_goals (try (simp only [Option.some.injEq] at e; subst e))
  all_goals rename_i hu
  · cases hx; cases hy <;> simp [Op.equalIn, run_underlying_of hu]
  · cases hx; cases hy; simp [Op.equalIn, run_underlying_of hu]
  · split at e
    · rename_i i hi
      split at e
      · cases e
      · rename_i hs
        split at e
        · rename_i hbb
          subst hbb
          simp only [Option.some.injEq] at e; subst e
          cases hx with
          | ptr o hm =>
            cases hy with
            | ptr o' hm' =>
              rw [hm] at hm'; cases hm'
              rename_i m
              simp only [Op.equalIn, Sem.run_bind, run_underlying_of hu, Result.andThen_ok, run_sizeOf_of hi, ne_eq, hs, not_false_eq_true, if_true]
              simp only [sameAddr, beq_self_eq_true, if_true, Sem.run_pure]
              congr 1
              rw [Bool.eq_iff_iff]
              simp
        · cases e
    · cases e
  · cases hx; cases hy <;> simp [Op.equalIn, run_underlying_of hu]
  · cases hx; cases hy; simp [Op.equalIn, run_underlying_of hu]
  · cases hx; cases hy <;> simp [Op.equalIn, run_underlying_of hu]
  · cases hx; cases hy; simp [Op.equalIn, run_underlying_of hu]
  · cases hx; cases hy; simp [Op.equalIn, run_underlying_of hu]
  · cases hx; cases hy; simp [Op.equalIn, run_underlying_of hu]
  · cases hx; cases hy; simp [Op.equalIn, run_underlying_of hu]
  · cases hx; cases hy; simp [Op.equalIn, run_underlying_of hu]

theorem pureRun_bind_fst {α β : Type} {P : Program} {s : Sem α} {f : α → Sem β} {b : β} (e : pureRun P (s >>= f) = some b) (w : World) : ∃ a, s.run P w = .ok a w := by
  change pureRun P (s.bind f) = some b at e
  induction s with
  | pure a => exact ⟨a, rfl⟩
  | program k ih => simp only [Sem.bind, pureRun] at e; exact ih P e
  | mark m k ih => simp only [Sem.bind, pureRun] at e; exact ih e
  | _ => simp [Sem.bind, pureRun] at e

theorem binOp_eql {μ : Mu} {t : TypeId} {x y x' y' : Value} (hx : VRel μ x x') (hy : VRel μ y y') (h1 : ∀ k a k' b, x = .int k a → y = .int k' b → False) (h2 : ∀ a b, x = .string a → y = .string b → False) :
    binOp .eql t x' y' = (do pure (.bool (← Op.equal t x' y'))) := by
  cases hx <;> cases hy <;> first | rfl | exact (h1 _ _ _ _ rfl rfl).elim | exact (h2 _ _ rfl rfl).elim

def canon (x : Operand) : Operand := if isConst x then .const undef else .tmp 0
theorem eqGuard_canon {op : BinOp} {t : TypeId} (x y : Operand) (a b : Value) : eqGuard op t x y a b = eqGuard op t (canon x) (canon y) a b := by
  cases x <;> cases y <;> rfl
theorem binOp_neq {μ : Mu} {t : TypeId} {x y x' y' : Value} (hx : VRel μ x x') (hy : VRel μ y y') (h1 : ∀ k a k' b, x = .int k a → y = .int k' b → False) (h2 : ∀ a b, x = .string a → y = .string b → False) :
    binOp .neq t x' y' = (do pure (.bool (!(← Op.equal t x' y')))) := by
  cases hx <;> cases hy <;> first | rfl | exact (h1 _ _ _ _ rfl rfl).elim | exact (h2 _ _ rfl rfl).elim

theorem eqGuard_congr {P : Program} {op : BinOp} {t : TypeId} {x y x' y' : Operand} (hx : isConst x = isConst x') (hy : isConst y = isConst y') (a b : Value) (w : World) :
    (eqGuard op t x y a b).run P w = (eqGuard op t x' y' a b).run P w := by
  rw [eqGuard_canon x y, eqGuard_canon x' y']
  unfold canon
  rw [hx, hy]

theorem isConst_canon (x : Operand) (v : Value) : isConst x = isConst (if isConst x then .const v else .tmp 0) := by cases x <;> rfl

/-- A test of two values, one of which may be nil. -/
theorem run_eqE {P : Program} {μ : Mu} {op : BinOp} {t : TypeId} {ox oy : Operand} {x y x' y' : Value} (hx : VRel μ x x') (hy : VRel μ y y') {b : Bool}
    (e : eqE P op t (isConst ox) (isConst oy) x y = some b) (w : World) :
    (eqGuard op t ox oy x' y').run P w = .ok () w ∧ (Op.equal t x' y').run P w = .ok b w := by
  unfold eqE at e
  split at e
  · rename_i b0 e0
    simp only [Option.some.injEq] at e; subst e
    refine ⟨?_, run_equal_nil hx hy e0 w⟩
    unfold eqNilE at e0
    apply eqGuard_plain
    · rintro ⟨rfl, rfl⟩; cases hx; cases hy; split at e0 <;> simp_all
    · rintro c d ⟨rfl, rfl⟩; cases hx; cases hy; split at e0 <;> simp_all
  · unfold eqFlatE at e
    split at e
    · rename_i hf
      simp only [Bool.and_eq_true] at hf
      rw [hx.flat_eq hf.1, hy.flat_eq hf.2]
      split at e
      · rename_i b0 e0
        simp only [Option.some.injEq] at e; subst e
        have h := pureRun_run _ w e0
        obtain ⟨u', h2⟩ := pureRun_bind_fst e0 w
        rw [← eqGuard_congr (isConst_canon ox x) (isConst_canon oy y)] at h2
        rw [Sem.run_bind, ← eqGuard_congr (isConst_canon ox x) (isConst_canon oy y), h2] at h
        exact ⟨h2, h⟩
      · cases e
    · cases e

theorem run_binE {P : Program} {μ : Mu} {op : BinOp} {t : TypeId} {ox oy : Operand} {x y x' y' v : Value} (hx : VRel μ x x') (hy : VRel μ y y')
    (e : binE P op t (isConst ox) (isConst oy) x y = some v) (w : World) :
    (do eqGuard op t ox oy x' y'; binOp op t x' y').run P w = .ok v w ∧ VRel μ v v := by
  unfold binE at e
  split at e
  · rename_i k a k' b
    cases hx; cases hy
    refine ⟨run_binOp_int op t k k' a b ox oy w e, ?_⟩
    have : flat v = true := by
      cases op <;> (try simp only [intE] at e) <;> (repeat' split at e) <;> (try (cases e)) <;> rfl
    exact .flat_self this
  · rename_i a b
    cases hx; cases hy
    refine ⟨run_binOp_str op t a b ox oy w e, ?_⟩
    have : flat v = true := by
      cases op <;> simp only [strE] at e <;> (repeat' split at e) <;> (try (cases e)) <;> rfl
    exact .flat_self this
  · rename_i h1 h2
    split at e
    · simp only [Option.map_eq_some_iff] at e
      obtain ⟨b, e, rfl⟩ := e
      obtain ⟨q1, q2⟩ := run_eqE hx hy e w
      refine ⟨?_, .bool b⟩
      rw [Sem.run_bind, q1]
      simp only [Result.andThen_ok]
      rw [binOp_eql hx hy h1 h2, Sem.run_bind, q2]
      rfl
    · simp only [Option.map_eq_some_iff] at e
      obtain ⟨b, e, rfl⟩ := e
      obtain ⟨q1, q2⟩ := run_eqE hx hy e w
      refine ⟨?_, .bool _⟩
      rw [Sem.run_bind, q1]
      simp only [Result.andThen_ok]
      rw [binOp_neq hx hy h1 h2, Sem.run_bind, q2]
      rfl
    · cases e
end Go.Abs
