/- AbsB: the abstract semantics over the model, parts 12 to 17. -/
import Derived.Test.YtkpjfibpaojelaaDoorAbsA
import Derived.Laws.BytesString

/- Operations that read memory: bytes as a string, maps; all calm operations. -/
namespace Go.Abs
open Go

def bytesE : List Value → Option (List Int)
  | [] => some []
  | .int .u8 n :: r => (bytesE r).map fun l => n :: l
  | _ :: _ => none

theorem bytesE_eq : ∀ {xs : List Value} {ns : List Int}, bytesE xs = some ns → xs = ns.map (Value.int .u8) := by
  intro xs
  induction xs with
  | nil => intro ns e; simp only [bytesE, Option.some.injEq] at e; subst e; rfl
  | cons x xs ih =>
    intro ns e
    cases x with
    | int k n =>
      cases k <;> simp only [bytesE, Option.map_eq_some_iff] at e <;> (try (cases e; done))
      obtain ⟨l, h1, rfl⟩ := e
      rw [List.map_cons, ← ih h1]
    | _ => simp [bytesE] at e

theorem LRel.ints {μ : Mu} : ∀ {ns : List Int} {ys : List Value}, LRel μ (ns.map (Value.int .u8)) ys → ys = ns.map (Value.int .u8) := by
  intro ns
  induction ns with
  | nil => intro ys h; cases h; rfl
  | cons n ns ih => intro ys h; cases h with
    | cons hx ht => cases hx; rw [List.map_cons, ih ht]

theorem foldl_push (ns : List Int) : ∀ s : ByteArray, ns.foldl (fun r n => r.push (UInt8.ofNat n.toNat)) s = ⟨(s.data.toList ++ ns.map fun n => UInt8.ofNat n.toNat).toArray⟩ := by
  induction ns with
  | nil => intro s; apply ByteArray.ext; simp
  | cons n ns ih =>
    intro s
    simp only [List.foldl_cons, List.map_cons]
    rw [ih]
    apply ByteArray.ext
    apply Array.ext'
    simp

def strOfE (P : Program) (s d : TypeId) (x : Value) (h : Heap) : Option Value :=
  match P.underlying s, P.underlying d, x with
  | some (.slice e), some .string, .slice (some ⟨b, o, none⟩) len _ =>
    match P.underlying e with
    | some (.int .u8) => match rowE h b o len with
      | some xs => match bytesE xs with
        | some ns => some (.string ⟨(ns.map fun n => UInt8.ofNat n.toNat).toArray⟩)
        | none => none
      | none => none
    | _ => none
  | some (.slice e), some .string, .slice none 0 0 => match P.underlying e with
    | some (.int .u8) => some (.string ⟨#[]⟩)
    | _ => none
  | _, _, _ => none

theorem strOfE_sound {P : Program} {μ : Mu} {h : Heap} {n : Nat} {w : World} (r : Rel P μ h n w) {s d : TypeId} {x x' v : Value} (hx : VRel μ x x') (e : strOfE P s d x h = some v) :
    (convert s d x').run P w = .ok v w ∧ VRel μ v v := by
  unfold strOfE at e
  split at e
  · rename_i el b o len cap hs hd
    cases hx with
    | slice _ _ _ cap' hm hcc =>
      rename_i m0
      split at e
      · rename_i he
        split at e
        · rename_i xs hxs
          split at e
          · rename_i ns hns
            cases e
            refine ⟨?_, .string _⟩
            obtain ⟨m, xs', f1, f2, f3, f4, f5⟩ := rowE_sound r hm hxs
            rw [hm] at f1; cases f1
            rw [bytesE_eq hns] at f5
            have hxs' : xs' = ns.map (Value.int .u8) := by
              have := f5.list
              simp only at this
              exact this.ints
            rw [run_convert_bytes_string w s d el _ _ _ hs he hd]
            rw [run_bytesToString (ns := ns)]
            · rw [foldl_push]; rfl
            · rw [← hxs', ← f2]; exact run_loadCells xs' f4
          · cases e
        · cases e
      · cases e
  · rename_i el hs hd
    cases hx
    split at e
    · rename_i he
      cases e
      refine ⟨?_, .string _⟩
      rw [run_convert_bytes_string w s d el _ _ _ hs he hd]
      rfl
    · cases e
  · cases e

/-! Maps. -/
/-- Whether two keys are the same. -/
def keyEqE (P : Program) (t : TypeId) (a b : Value) : Option Bool :=
  if flat a && flat b then pureRun P (Op.equal t a b) else none

def findE (P : Program) (t : TypeId) (k : Value) : List (Value × Value) → Nat → Option (Option Nat)
  | [], _ => some none
  | e :: es, i => match keyEqE P t k e.1 with
    | some true => some (some i)
    | some false => findE P t k es (i + 1)
    | none => none

theorem sameNow_of {P : Program} {t : TypeId} {d : TypeDesc} (hd : P.underlying t = some d) {a b : Value} {r : Bool} (e : pureRun P (Op.equal t a b) = some r) : Instr.sameNow d a b = some r ∨ Instr.sameNow d a b = none := by
  have h := pureRun_run _ (default : World) e
  unfold Op.equal at h
  obtain ⟨n, hn⟩ : ∃ n, Op.maxDepth = n + 1 := ⟨9999, rfl⟩
  rw [hn] at h
  cases d <;> cases a <;> cases b <;> (try exact .inr rfl) <;> simp only [Instr.sameNow]
  · simp [Op.equalIn, run_underlying_of hd] at h; simp [h]
  · rename_i k1 k2 n1 k3 n2
    simp only [Op.equalIn, Sem.run_bind, run_underlying_of hd, Result.andThen_ok] at h
    split
    · rename_i hk; subst hk; simp at h; simp [h]
    · exact .inr rfl
  · simp [Op.equalIn, run_underlying_of hd] at h; simp [h]

inductive ERelM (μ : Mu) : List (Value × Value) → List MapEntry → Prop
  | nil : ERelM μ [] []
  | cons {k v : Value} {e : MapEntry} {es : List (Value × Value)} {es' : List MapEntry} (hk : VRel μ k e.key) (hv : VRel μ v e.val) (t : ERelM μ es es') : ERelM μ ((k, v) :: es) (e :: es')

theorem ERelM.of_get {μ : Mu} : ∀ {es : List (Value × Value)} {es' : List MapEntry}, es.length = es'.length →
    (∀ (i : Nat) (e : Value × Value), es[i]? = some e → ∃ e' : MapEntry, es'[i]? = some e' ∧ VRel μ e.1 e'.key ∧ VRel μ e.2 e'.val) → ERelM μ es es' := by
  intro es
  induction es with
  | nil => intro es' hl _; cases es' with
    | nil => exact .nil
    | cons => simp at hl
  | cons e es ih =>
    intro es' hl h
    cases es' with
    | nil => simp at hl
    | cons e' es' =>
      obtain ⟨e0, h1, h2, h3⟩ := h 0 e (by simp)
      simp at h1; subst h1
      exact .cons h2 h3 (ih (by simpa using hl) fun i x hx => by simpa using h (i + 1) x (by simpa using hx))

theorem ERelM.length {μ : Mu} {es : List (Value × Value)} {es' : List MapEntry} (h : ERelM μ es es') : es'.length = es.length := by
  induction h with
  | nil => rfl
  | cons _ _ _ ih => simp [ih]

theorem ERelM.get {μ : Mu} {es : List (Value × Value)} {es' : List MapEntry} (h : ERelM μ es es') : ∀ {i : Nat} {e : Value × Value}, es[i]? = some e → ∃ e' : MapEntry, es'[i]? = some e' ∧ VRel μ e.1 e'.key ∧ VRel μ e.2 e'.val := by
  induction h with
  | nil => intro i e h; simp at h
  | cons hk hv _ ih =>
    intro i e h
    cases i with
    | zero => simp at h; subst h; exact ⟨_, by simp, hk, hv⟩
    | succ i => simpa using ih (by simpa using h)

/-- Of a map's entries, what a key is found at. -/
theorem findE_sound {P : Program} {μ : Mu} {t : TypeId} {d : TypeDesc} (hd : P.underlying t = some d) {k : Value} (w : World) : ∀ {es : List (Value × Value)} {es' : List MapEntry}, ERelM μ es es' → ∀ {i : Nat} {r : Option Nat},
    findE P t k es i = some r →
    (match Instr.findNow d k es' i with
      | some x => x = r.bind fun j => (es'[j - i]?).map fun e => (j, e.val)
      | none => True) ∧
    (Instr.findAsking t k es' i).run P w = .ok (r.bind fun j => (es'[j - i]?).map fun e => (j, e.val)) w ∧ (∀ j, r = some j → i ≤ j ∧ j - i < es.length) := by
  intro es es' h
  induction h with
  | nil => intro i r e; simp only [findE, Option.some.injEq] at e; subst e; exact ⟨rfl, rfl, by simp⟩
  | @cons k0 v0 e0 es es' hk hv ht ih =>
    intro i r e
    simp only [findE] at e
    cases hke : keyEqE P t k k0 with
    | none => rw [hke] at e; cases e
    | some b =>
      rw [hke] at e
      unfold keyEqE at hke
      split at hke
      · rename_i hf
        simp only [Bool.and_eq_true] at hf
        have ek : e0.key = k0 := hk.flat_eq hf.2
        have hsn := sameNow_of hd hke
        have hrun := pureRun_run _ w hke
        cases b with
        | true =>
          simp only [Option.some.injEq] at e; subst e
          refine ⟨?_, ?_, fun j hj => by cases hj; exact ⟨Nat.le_refl _, by simp⟩⟩
          · simp only [Instr.findNow, ek]
            rcases hsn with hs | hs <;> rw [hs] <;> simp
          · simp [Instr.findAsking, ek, hrun]
        | false =>
          simp only at e
          obtain ⟨q1, q2, q3⟩ := ih e
          have hshift : ∀ j, r = some j → j - i = (j - (i + 1)) + 1 := by intro j hj; have := (q3 j hj).1; omega
          have hval : (r.bind fun j => (es'[j - (i + 1)]?).map fun e => (j, e.val)) = r.bind fun j => ((e0 :: es')[j - i]?).map fun e => (j, e.val) := by
            cases r with
            | none => rfl
            | some j => simp only [Option.bind_some]; rw [hshift j rfl]; simp
          refine ⟨?_, ?_, fun j hj => ⟨by have := (q3 j hj).1; omega, by have := (q3 j hj).2; have := (q3 j hj).1; simp; omega⟩⟩
          · simp only [Instr.findNow, ek]
            rcases hsn with hs | hs
            · rw [hs]; simp only; rw [hval] at q1; exact q1
            · rw [hs]; trivial
          · simp only [Instr.findAsking, ek, Sem.run_bind, hrun, Result.andThen_ok, Bool.false_eq_true, if_false]
            rw [q2, hval]
      · cases hke

theorem findKey_sound {P : Program} {μ : Mu} {t : TypeId} {d : TypeDesc} (hd : P.underlying t = some d) {k : Value} (w : World) {es : List (Value × Value)} {es' : List MapEntry} (h : ERelM μ es es') {r : Option Nat} (e : findE P t k es 0 = some r) :
    (Instr.findKey t k es').run P w = .ok (r.bind fun j => (es'[j]?).map fun e => (j, e.val)) w := by
  obtain ⟨q1, q2, _⟩ := findE_sound hd w h e
  simp only [Nat.sub_zero] at q1 q2
  simp only [Instr.findKey, Sem.run_bind, run_underlying_of hd, Result.andThen_ok]
  cases hn : Instr.findNow d k es' 0 with
  | some x => rw [hn] at q1; simp only at q1; rw [q1]; rfl
  | none => exact q2

def entriesE (h : Heap) (x : Value) : Option (List (Value × Value)) :=
  match x with
  | .map none => some []
  | .map (some r) => match h.get r with
    | some (.map es) => some es
    | _ => none
  | _ => none

def lookupE (P : Program) (t : TypeId) (x k : Value) (ok : Bool) (h : Heap) : Option Value :=
  match P.underlying t with
  | some (.map kt el) =>
    match entriesE h x with
    | some es =>
      if flat k then
        match pureRun P (Instr.checkKey es.isEmpty 10000 kt k), P.underlying kt, findE P kt k es 0 with
        | some _, some _, some r =>
          match r with
          | some i => match es[i]? with
            | some e => some (if ok then .tuple #[e.2, .bool true] else e.2)
            | none => none
          | none => match P.info? el with
            | some inf => match inf.zero with
              | some z => if flat z then some (if ok then .tuple #[z, .bool false] else z) else none
              | none => none
            | none => none
        | _, _, _ => none
      else none
    | none => none
  | _ => none

/-- The entries of a map, on both sides. -/
theorem entries_sound {P : Program} {μ : Mu} {h : Heap} {n : Nat} {w : World} (r : Rel P μ h n w) {x x' : Value} (hx : VRel μ x x') {es : List (Value × Value)} (e : entriesE h x = some es) :
    ∃ es' : Array MapEntry, ERelM μ es es'.toList ∧ ((x' = .map none ∧ es' = #[]) ∨ (∃ b clock, x' = .map (some b) ∧ w.heap[b]? = some (.map es' clock))) := by
  unfold entriesE at e
  split at e
  · cases e; cases hx; exact ⟨#[], .nil, .inl ⟨rfl, rfl⟩⟩
  · rename_i b
    cases hx with
    | map hm =>
      rename_i m
      split at e
      · rename_i es0 hb
        cases e
        obtain ⟨m1, x1, f1, f2, f3⟩ := r.obj b _ hb
        rw [hm] at f1; cases f1
        cases x1 with
        | map es' clock =>
          obtain ⟨_, g2, g3, _⟩ := f3
          exact ⟨es', ERelM.of_get (by simpa using g2) (fun i e he => by simpa using g3 i e he), .inr ⟨_, clock, rfl, f2⟩⟩
        | _ => exact f3.elim
      · cases e
  · cases e

theorem lookupE_sound {P : Program} {μ : Mu} {h : Heap} {n : Nat} {w : World} (r : Rel P μ h n w) {t : TypeId} {x x' k k' v : Value} {ok : Bool} (hx : VRel μ x x') (hk : VRel μ k k') (e : lookupE P t x k ok h = some v) :
    ∃ v', (Instr.lookup t x' k' ok).run P w = .ok v' w ∧ VRel μ v v' := by
  unfold lookupE at e
  split at e
  · rename_i kt el hu
    split at e
    · rename_i es hes
      obtain ⟨es', he, hrun⟩ := entries_sound r hx hes
      split at e
      · rename_i hf
        rw [hk.flat_eq hf]
        split at e
        · rename_i u d rr hck hkt hfd
          have hfind := findKey_sound (P := P) hkt w he hfd
          have hemp : es'.isEmpty = es.isEmpty := by
            have := he.length
            cases es with
            | nil => simp at this; simp [this]
            | cons => simp at this; simp only [List.isEmpty_cons]; rw [Array.isEmpty_eq_false_iff]; intro h0; simp [h0] at this
          have hchk := pureRun_run _ w hck
          have run_get : ∀ {b : Nat} {clock : Nat}, w.heap[b]? = some (.map es' clock) → (getObj b).run P w = .ok (.map es' clock) w := by
            intro b clock hb; simp [getObj, Sem.run, hb]
          split at e
          · rename_i i
            split at e
            · rename_i en hen
              cases e
              obtain ⟨e', q1, q2, q3⟩ := he.get hen
              have hq : (Instr.lookup t x' k ok).run P w = .ok (if ok then .tuple #[e'.val, .bool true] else e'.val) w := by
                rw [Option.bind_some, q1, Option.map_some] at hfind
                rw [← hemp] at hchk
                rcases hrun with ⟨rfl, rfl⟩ | ⟨b, clock, rfl, hb⟩
                · simp only [Instr.lookup, Sem.run_bind, run_underlying_of hu, Result.andThen_ok, Sem.run_pure, hchk, hfind]
                · simp only [Instr.lookup, Sem.run_bind, run_underlying_of hu, Result.andThen_ok, Sem.run_pure, run_get hb, hchk, hfind]
              refine ⟨_, hq, ?_⟩
              cases ok with
              | true => exact pair_rel q3 (.bool true)
              | false => exact q3
            · cases e
          · split at e
            · rename_i inf hi
              split at e
              · rename_i z hz
                split at e
                · rename_i hfz
                  cases e
                  have hq : (Instr.lookup t x' k ok).run P w = .ok (if ok then .tuple #[z, .bool false] else z) w := by
                    rw [Option.bind_none] at hfind
                    rw [← hemp] at hchk
                    rcases hrun with ⟨rfl, rfl⟩ | ⟨b, clock, rfl, hb⟩
                    · simp only [Instr.lookup, Sem.run_bind, run_underlying_of hu, Result.andThen_ok, Sem.run_pure, hchk, hfind, run_zeroValue_of hi hz]
                    · simp only [Instr.lookup, Sem.run_bind, run_underlying_of hu, Result.andThen_ok, Sem.run_pure, run_get hb, hchk, hfind, run_zeroValue_of hi hz]
                  refine ⟨_, hq, ?_⟩
                  cases ok with
                  | true => exact pair_rel (.flat_self hfz) (.bool false)
                  | false => exact .flat_self hfz
                · cases e
              · cases e
            · cases e
        · cases e
      · cases e
    · cases e
  · cases e
/-- The length of a map. -/
def mapLenE (P : Program) (ts : List TypeId) (args : List Value) (h : Heap) : Option Value :=
  match ts, args with
  | t :: _, [x] => match P.underlying t, entriesE h x with
    | some (.map _ _), some es => some (.int .i64 es.length)
    | _, _ => none
  | _, _ => none

theorem mapLenE_sound {P : Program} {μ : Mu} {h : Heap} {n : Nat} {w : World} (r : Rel P μ h n w) {ts : Array TypeId} {args args' : List Value} {v : Value} (ha : LRel μ args args') (e : mapLenE P ts.toList args h = some v) (ty : TypeId) :
    (Builtin.len_ ts ty args'.toArray).run P w = .ok v w ∧ VRel μ v v := by
  unfold mapLenE at e
  split at e
  · rename_i t rest x hts
    cases ha with
    | cons hx ht =>
      cases ht
      have h0 : ts[0]? = some t := by rw [← Array.getElem?_toList, hts]; rfl
      split at e
      · rename_i kt el es hu hes
        cases e
        obtain ⟨es', he, hrun⟩ := entries_sound r hx hes
        have hl := he.length
        refine ⟨?_, .int _ _⟩
        rcases hrun with ⟨rfl, rfl⟩ | ⟨b, clock, rfl, hb⟩
        · simp at hl
          simp [Builtin.len_, h0, run_underlying_of hu, goInt, ← hl]
        · have hg : (getObj b).run P w = .ok (.map es' clock) w := by simp [getObj, Sem.run, hb]
          simp only [Array.length_toList] at hl
          simp [Builtin.len_, h0, run_underlying_of hu, goInt, hg, hl]
      · cases e
  · cases e

/-! All calm operations. -/
def calmE (P : Program) (o : Oper) (ρ : Operand → Value) (h : Heap) : Option Value :=
  match o.op with
  | .load t a => loadE P t (ρ a) h
  | .slice t x lo hi mx => sliceE P t (ρ x) (lo.map ρ) (hi.map ρ) (mx.map ρ) h
  | .lookup t x k ok => lookupE P t (ρ x) (ρ k) ok h
  | .convert s d x => match convE P s d (ρ x) with
    | some v => some v
    | none => strOfE P s d (ρ x) h
  | .call c => match c.callee with
    | .builtin b => match builtinE P b c.argTypes (c.args.toList.map ρ) with
      | some v => some v
      | none => match b with
        | .len => mapLenE P c.argTypes.toList (c.args.toList.map ρ) h
        | _ => none
    | _ => none
  | _ => pureE P o ρ

theorem ORelV_map {μ : Mu} {ρ ρ' : Operand → Value} (x : Option Operand) (h : ∀ y, x = Option.some y → VRel μ (ρ y) (ρ' y)) : ORelV μ (x.map ρ) (x.map ρ') := by
  cases x with
  | none => exact .none
  | some y => exact .some (h y rfl)

theorem calmE_sound {P : Program} {o : Oper} {ρ : Operand → Value} {h : Heap} {v : Value} (e : calmE P o ρ h = some v) : CalmVal P o ρ h v := by
  intro μ ρ' n w hρ hr
  obtain ⟨dst, op, ty, pos, after, guard⟩ := o
  cases op
  case load t a =>
    obtain ⟨v', q1, q2⟩ := loadE_sound hr (hρ a (by simp [Op.operands])) e
    exact ⟨v', by simp [execOp, q1], q2⟩
  case slice t x lo hi mx =>
    obtain ⟨v', q1, q2⟩ := sliceE_sound hr (hρ x (by simp [Op.operands])) (ORelV_map lo fun y hy => hρ y (by subst hy; simp [Op.operands]))
      (ORelV_map hi fun y hy => hρ y (by subst hy; simp [Op.operands])) (ORelV_map mx fun y hy => hρ y (by subst hy; simp [Op.operands])) e
    exact ⟨v', by simp [execOp, q1], q2⟩
  case lookup t x k ok =>
    obtain ⟨v', q1, q2⟩ := lookupE_sound hr (hρ x (by simp [Op.operands])) (hρ k (by simp [Op.operands])) e
    exact ⟨v', by simp [execOp, q1], q2⟩
  case convert s d x =>
    simp only [calmE] at e
    split at e
    · rename_i v0 e0
      cases e
      obtain ⟨q1, q2⟩ := convE_sound (hρ x (by simp [Op.operands])) e0 w
      exact ⟨_, by simp [execOp, q1], q2⟩
    · obtain ⟨q1, q2⟩ := strOfE_sound hr (hρ x (by simp [Op.operands])) e
      exact ⟨_, by simp [execOp, q1], q2⟩
  case call c =>
    simp only [calmE] at e
    split at e
    · rename_i b hb
      split at e
      · rename_i v0 e0
        cases e
        exact pureE_sound (o := ⟨dst, .call c, ty, pos, after, guard⟩) hρ (by simp only [pureE, hb]; exact e0) w
      · split at e
        · have ha := LRel.of_map c.args.toList (fun x hx => hρ x (by simp [Op.operands, Call.operands, hb]; simpa using hx))
          obtain ⟨q1, q2⟩ := mapLenE_sound hr ha e ty
          refine ⟨v, ?_, q2⟩
          have e1 : c.args.map ρ' = (c.args.toList.map ρ').toArray := by apply Array.ext'; simp
          simp only [execOp, resolve, hb, Sem.run_bind, Sem.run_pure, Result.andThen_ok, invoke, e1, builtin, q1]
        · cases e
    · cases e
  all_goals exact pureE_sound hρ e w

/-- 0: it acts; 1: it reads no memory; 2: it reads alone. -/
def kindOf (P : Program) (o : Oper) : Nat :=
  match o.op with
  | .load _ _ | .lookup .. => 2
  | .slice t .. => match P.underlying t with
    | some (.slice _) => 2
    | _ => 1
  | .convert s d _ => match P.underlying s, P.underlying d with
    | some (.slice _), _ => 2
    | some .string, some (.slice _) => 0
    | _, _ => 1
  | .call c => match c.callee with
    | .builtin b => match b with
      | .len => match c.argTypes.toList with
        | t :: _ => match P.underlying t with
          | some (.map _ _) => 2
          | _ => 1
        | [] => 0
      | .cap | .min | .max => 1
      | _ => 0
    | _ => 0
  | .move _ | .assign _ | .pick .. | .build .. | .nilCheck _ | .binOp .. | .unOp .. | .makeInterface .. | .makeFunc .. | .fieldAddr .. | .field .. | .indexAddr .. | .index .. | .typeAssert .. | .extract .. => 1
  | _ => 0
end Go.Abs

/- Operations that act: new memory, stores, maps. -/
namespace Go.Abs
open Go

inductive ARes where
  | val (v : Value)
  | skip
  | ent (f : FuncId) (args : List Value)
  | dfr (d : Deferred)
  | pan (v : Value)

/-- What an operation that acts comes to. -/
inductive NRel (μ : Mu) : ARes → Result Next → World → Prop
  | val {v v' : Value} {w : World} (h : VRel μ v v') : NRel μ (.val v) (.ok (.value v') w) w
  | skip {w : World} : NRel μ .skip (.ok .skip w) w
  | ent {f : FuncId} {a a' : List Value} {w : World} (h : LRel μ a a') : NRel μ (.ent f a) (.ok (.enter f a'.toArray) w) w
  | dfr {d d' : Deferred} {w : World} (h : DRel μ d d') : NRel μ (.dfr d) (.ok (.defer d') w) w
  | pan {v v' : Value} {w : World} (h : VRel μ v v') : NRel μ (.pan v) (.halt (.panic v') w) w

def ARun (P : Program) (s : Sem Next) (μ : Mu) (h : Heap) (n : Nat) (w : World) (x : ARes × Heap × Nat) : Prop :=
  ∃ μ' w', NRel μ' x.1 (s.run P w) w' ∧ Rel P μ' x.2.1 x.2.2 w' ∧ Grow μ h w μ' x.2.1 w' ∧ n ≤ x.2.2

theorem Rel.globs {P : Program} {μ : Mu} {h : Heap} {n : Nat} {w : World} (r : Rel P μ h n w) : P.globals.size ≤ n := by
  rcases Nat.lt_or_ge n P.globals.size with hlt | hge
  · obtain ⟨m, hm, _⟩ := r.glob n hlt
    rw [r.bound n (Nat.le_refl _)] at hm
    cases hm
  · exact hge

/-- A new row of cells, with more cells behind those that are told. -/
theorem Rel.row {P : Program} {μ : Mu} {h : Heap} {n : Nat} {w : World} (r : Rel P μ h n w) {xs xs' rest : List Value} (hx : LRel μ xs xs') (e : TypeId) (k : Nat) (whole : Bool) (hw : whole = true → rest = []) (fr : Nat × Nat) (hfr : xs'.length + rest.length ≤ fr.1 ∨ fr.2 ≤ fr.1) :
    Rel P (μ.set n ⟨w.heap.size, 0, xs'.length + rest.length, k⟩) (h.set n (.cells xs true ⟨e, k, whole⟩)) (n + 1) { w with heap := w.heap.push (.cells (xs' ++ rest).toArray e fr) } ∧
    Grow μ h w (μ.set n ⟨w.heap.size, 0, xs'.length + rest.length, k⟩) (h.set n (.cells xs true ⟨e, k, whole⟩)) { w with heap := w.heap.push (.cells (xs' ++ rest).toArray e fr) } := by
  have hle : μ.le (μ.set n ⟨w.heap.size, 0, xs'.length + rest.length, k⟩) := Mu.le_set (r.bound n (Nat.le_refl _))
  have hl := hx.length
  refine r.push _ _ _ rfl r.globs ⟨by simp, by simp; omega, ?_, ?_, rfl, rfl, ?_⟩
  · intro i v hi
    obtain ⟨v', h1, h2⟩ := hx.get hi
    refine ⟨v', ?_, h2.mono hle⟩
    have hlt := (List.getElem?_eq_some_iff.1 h1).1
    simp only [Nat.zero_add, List.getElem?_toArray]
    rw [List.getElem?_append_left hlt]; exact h1
  · intro _ i _ hi
    simp at hi
    omega
  · intro hwh
    have := hw hwh
    subst this
    simp [hl]

theorem VRel.new {μ : Mu} {n : Nat} {m : Im} (hoff : m.off = 0) (o : Nat) : VRel (μ.set n m) (.pointer (some ⟨n, o, none⟩)) (.pointer (some ⟨m.blk, o, none⟩)) := by
  have := VRel.ptr (μ := μ.set n m) o (Mu.set_same μ n m)
  rw [hoff, Nat.zero_add] at this
  exact this

theorem VRel.newSlice {μ : Mu} {n : Nat} {m : Im} (hoff : m.off = 0) (len cap cap' : Nat) (hc : (cap < U ∧ cap = cap') ∨ (cap = U ∧ len ≤ cap' ∧ cap' * m.k ≤ m.sz)) :
    VRel (μ.set n m) (.slice (some ⟨n, 0, none⟩) len cap) (.slice (some ⟨m.blk, 0, none⟩) len cap') := by
  have := VRel.slice (μ := μ.set n m) 0 len cap cap' (Mu.set_same μ n m) (by rw [hoff]; simpa using hc)
  rw [hoff] at this
  exact this

def zeroOf (P : Program) (t : TypeId) : Option Value :=
  match P.info? t with
  | some i => match i.zero with
    | some z => if z.cells.toList.all flat && flat z then some z else none
    | none => none
  | none => none

theorem zeroOf_run {P : Program} {t : TypeId} {z : Value} (e : zeroOf P t = some z) (w : World) : (zeroValue t).run P w = .ok z w ∧ (z.cells.toList.all flat) = true ∧ flat z = true := by
  unfold zeroOf at e
  split at e
  · rename_i i hi
    split at e
    · rename_i z0 hz
      split at e
      · rename_i hf
        cases e
        simp only [Bool.and_eq_true] at hf
        exact ⟨run_zeroValue_of hi hz w, hf.1, hf.2⟩
      · cases e
    · cases e
  · cases e

def allocE (P : Program) (t : TypeId) (h : Heap) (n : Nat) : Option (ARes × Heap × Nat) :=
  match zeroOf P t with
  | some z => some (.val (.pointer (some ⟨n, 0, none⟩)), h.set n (.cells z.cells.toList true ⟨t, 0, true⟩), n + 1)
  | none => none

theorem arr_of_list (c : Array Value) : (c.toList ++ []).toArray = c := by apply Array.ext'; simp

theorem allocE_sound {P : Program} {μ : Mu} {h : Heap} {n : Nat} {w : World} (r : Rel P μ h n w) {t : TypeId} {x : ARes × Heap × Nat} (e : allocE P t h n = some x) :
    ARun P (do pure (.value (← Instr.alloc t true (.tuple #[])))) μ h n w x := by
  unfold allocE at e
  split at e
  · rename_i z hz
    cases e
    obtain ⟨q1, q2, _⟩ := zeroOf_run hz w
    obtain ⟨g1, g2⟩ := r.row (rest := []) (LRel.flat q2) t 0 true (fun _ => rfl) (0, 0) (.inr (Nat.le_refl _))
    rw [arr_of_list] at g1 g2
    refine ⟨_, _, ?_, g1, g2, Nat.le_succ _⟩
    have : (do pure (.value (← Instr.alloc t true (.tuple #[]))) : Sem Next).run P w = .ok (.value (.pointer (some ⟨w.heap.size, 0, none⟩))) { w with heap := w.heap.push (.cells z.cells t (0, 0)) } := by
      simp [Instr.alloc, q1, newVar, newRow]
    rw [this]
    exact .val (.new rfl 0)
  · cases e

def boxE (t : TypeId) (v : Value) (h : Heap) (n : Nat) : ARes × Heap × Nat :=
  (.val (.pointer (some ⟨n, 0, none⟩)), h.set n (.cells v.cells.toList true ⟨t, 0, true⟩), n + 1)

theorem boxE_sound {P : Program} {μ : Mu} {h : Heap} {n : Nat} {w : World} (r : Rel P μ h n w) {t : TypeId} {v v' : Value} (hv : VRel μ v v') :
    ARun P (do pure (.value (← Instr.box t v'))) μ h n w (boxE t v h n) := by
  obtain ⟨g1, g2⟩ := r.row (rest := []) hv.cells.list t 0 true (fun _ => rfl) (0, 0) (.inr (Nat.le_refl _))
  rw [arr_of_list] at g1 g2
  refine ⟨_, _, ?_, g1, g2, Nat.le_succ _⟩
  have : (do pure (.value (← Instr.box t v')) : Sem Next).run P w = .ok (.value (.pointer (some ⟨w.heap.size, 0, none⟩))) { w with heap := w.heap.push (.cells v'.cells t (0, 0)) } := by
    simp [Instr.box, newVar, newRow]
  rw [this]
  exact .val (.new rfl 0)

/-- So many zero values. -/
def zerosE (z : List Value) (n : Nat) : List Value := (List.replicate n z).flatten

theorem length_zerosE (z : List Value) (n : Nat) : (zerosE z n).length = n * z.length := by simp [zerosE]

theorem get_zerosE (z : List Value) : ∀ (n i : Nat), i < n * z.length → (zerosE z n)[i]? = z[i % z.length]? := by
  intro n
  induction n with
  | zero => intro i h; omega
  | succ n ih =>
    intro i h
    have e : zerosE z (n + 1) = z ++ zerosE z n := by simp [zerosE, List.replicate_succ]
    rw [e]
    by_cases hi : i < z.length
    · rw [List.getElem?_append_left hi, Nat.mod_eq_of_lt hi]
    · have hi' : z.length ≤ i := by omega
      rw [List.getElem?_append_right hi', ih (i - z.length) (by rw [Nat.add_mul] at h; omega), ← Nat.mod_eq_sub_mod hi']

theorem zeros_model (z : Array Value) (n : Nat) : (Array.range (n * z.size)).map (fun i => z[i % z.size]!) = (zerosE z.toList n).toArray := by
  apply Array.ext'
  apply List.ext_getElem?
  intro i
  simp only [Array.toList_map, Array.toList_range, List.getElem?_map]
  by_cases h : i < n * z.size
  · rw [get_zerosE _ _ _ (by simpa using h)]
    have hz : 0 < z.size := by
      rcases Nat.eq_zero_or_pos z.size with h0 | h0
      · rw [h0] at h; omega
      · exact h0
    have hm : i % z.size < z.size := Nat.mod_lt _ hz
    rw [List.getElem?_range h]
    simp [hm]
  · rw [List.getElem?_eq_none (by simp; omega), List.getElem?_eq_none (by rw [length_zerosE]; simp; omega)]
    rfl

theorem flat_zerosE {z : List Value} (h : (z.all flat) = true) (n : Nat) : ((zerosE z n).all flat) = true := by
  rw [List.all_eq_true] at *
  intro x hx
  simp only [zerosE, List.mem_flatten, List.mem_replicate] at hx
  obtain ⟨l, ⟨_, rfl⟩, hx⟩ := hx
  exact h x hx

def buildSliceE (P : Program) (t : TypeId) (len : Nat) (parts : List (Nat × Value)) (h : Heap) (n : Nat) : Option (ARes × Heap × Nat) :=
  match P.underlying t with
  | some (.slice elem) =>
    match P.info? elem, zeroOf P elem with
    | some i, some z =>
      if z.cells.toList.length = i.size ∧ len * i.size ≤ 2 ^ 24 ∧ len ≤ 2 ^ 24 then
        match fillE (fun j => some (j * i.size, i.size)) (zerosE z.cells.toList len) parts with
        | some cells => some (.val (.slice (some ⟨n, 0, none⟩) len len), h.set n (.cells cells true ⟨elem, 0, true⟩), n + 1)
        | none => none
      else none
    | _, _ => none
  | _ => none

theorem buildSliceE_sound {P : Program} {μ : Mu} {h : Heap} {n : Nat} {w : World} (r : Rel P μ h n w) {t : TypeId} {len : Nat} {ps ps' : List (Nat × Value)} (hp : PRel μ ps ps') {x : ARes × Heap × Nat} (e : buildSliceE P t len ps h n = some x) :
    ARun P (do pure (.value (← Instr.buildSlice t len ps'.toArray))) μ h n w x := by
  unfold buildSliceE at e
  split at e
  · rename_i elem hu
    split at e
    · rename_i i z hi hz
      split at e
      · rename_i hc
        obtain ⟨c1, c2, c3⟩ := hc
        split at e
        · rename_i cells hfl
          cases e
          obtain ⟨q1, q2, _⟩ := zeroOf_run hz w
          obtain ⟨cells', p1, p2⟩ := fillE_sound hp (LRel.flat (flat_zerosE q2 len)) hfl
          obtain ⟨g1, g2⟩ := r.row (rest := []) p2 elem 0 true (fun _ => rfl) (0, 0) (.inr (Nat.le_refl _))
          rw [List.append_nil] at g1 g2
          refine ⟨_, _, ?_, g1, g2, Nat.le_succ _⟩
          have hzs : z.cells.size = i.size := by simpa using c1
          have hmap : (Array.range (len * i.size)).map (fun j => (if len * i.size = 0 then #[] else z.cells)[j % (if len * i.size = 0 then #[] else z.cells).size]!) = (zerosE z.cells.toList len).toArray := by
            by_cases h0 : len * i.size = 0
            · rw [h0]
              have : (zerosE z.cells.toList len) = [] := by
                apply List.eq_nil_of_length_eq_zero
                rw [length_zerosE, c1]; exact h0
              rw [this]
              simp
            · simp only [if_neg h0]
              rw [← hzs]; exact zeros_model _ _
          have : (do pure (.value (← Instr.buildSlice t len ps'.toArray)) : Sem Next).run P w = .ok (.value (.slice (some ⟨w.heap.size, 0, none⟩) len len)) { w with heap := w.heap.push (.cells cells'.toArray elem (0, 0)) } := by
            have hgt : ¬ (len * i.size > 2 ^ 24) := by omega
            by_cases h0 : len * i.size = 0
            · have hz0 : zerosE z.cells.toList len = [] := by
                apply List.eq_nil_of_length_eq_zero
                rw [length_zerosE, c1]; exact h0
              rw [hz0] at p1
              have hr1 : (Array.range 0).map (fun _ => (default : Value)) = #[] := by apply Array.ext'; simp
              simp only [Instr.buildSlice, Sem.run_bind, run_underlying_of hu, Result.andThen_ok, run_sizeOf_of hi, h0, if_true, Sem.run_pure]
              simp [hr1, p1, newRow]
            · simp only [h0, if_false] at hmap
              simp only [Instr.buildSlice, Sem.run_bind, run_underlying_of hu, Result.andThen_ok, run_sizeOf_of hi, hgt, if_false, h0, q1, Sem.run_pure, hmap, p1, newRow, run_newObj]
          rw [this]
          exact .val (.newSlice rfl _ _ _ (.inl ⟨by unfold U; omega, rfl⟩))
        · cases e
      · cases e
    · cases e
  · cases e
end Go.Abs

/- Operations that act: makes, appends, copies, maps. -/
namespace Go.Abs
open Go

theorem wrap64_in {x : Int} (h0 : 0 ≤ x) (h1 : x < 9223372036854775808) : IntKind.i64.wrap x = x := by
  have e : IntKind.i64.wrap x = if (x % 18446744073709551616) ≥ 9223372036854775808 then x % 18446744073709551616 - 18446744073709551616 else x % 18446744073709551616 := by
    simp [IntKind.wrap, IntKind.bits, IntKind.signed]
  rw [e]
  have : x % 18446744073709551616 = x := Int.emod_eq_of_lt h0 (by omega)
  rw [this, if_neg (by omega)]

def makeSliceE (P : Program) (t : TypeId) (len cap : Value) (h : Heap) (n : Nat) : Option (ARes × Heap × Nat) :=
  match P.underlying t, len, cap with
  | some (.slice elem), .int _ l, .int _ c =>
    match P.info? elem, zeroOf P elem with
    | some i, some z =>
      if z.cells.toList.length = i.size ∧ 0 ≤ l ∧ l ≤ c ∧ c < 2 ^ 47 ∧ i.bytes * c ≤ 2 ^ 47 then
        some (.val (.slice (some ⟨n, 0, none⟩) l.toNat c.toNat), h.set n (.cells (zerosE z.cells.toList c.toNat) true ⟨elem, 0, true⟩), n + 1)
      else none
    | _, _ => none
  | _, _, _ => none

theorem makeSliceE_sound {P : Program} {μ : Mu} {h : Heap} {n : Nat} {w : World} (r : Rel P μ h n w) {t : TypeId} {l l' c c' : Value} (hl : VRel μ l l') (hc : VRel μ c c') {x : ARes × Heap × Nat} (e : makeSliceE P t l c h n = some x) :
    ARun P (do pure (.value (← Instr.makeSlice t l' c'))) μ h n w x := by
  unfold makeSliceE at e
  split at e
  · rename_i elem k1 l k2 c hu
    cases hl; cases hc
    split at e
    · rename_i i z hi hz
      split at e
      · rename_i hcnd
        obtain ⟨c1, c2, c3, c4, c5⟩ := hcnd
        cases e
        obtain ⟨q1, q2, _⟩ := zeroOf_run hz w
        obtain ⟨g1, g2⟩ := r.row (rest := []) (LRel.flat (flat_zerosE q2 c.toNat)) elem 0 true (fun _ => rfl) (0, 0) (.inr (Nat.le_refl _))
        rw [List.append_nil] at g1 g2
        refine ⟨_, _, ?_, g1, g2, Nat.le_succ _⟩
        have hzs : z.cells.size = i.size := by simpa using c1
        have hwl : IntKind.i64.wrap l = l := wrap64_in c2 (by omega)
        have hwc : IntKind.i64.wrap c = c := wrap64_in (by omega) (by omega)
        have hcond : (((decide (c < 0) || decide ((i.bytes : Int) * c > 2 ^ 48)) || decide (l < 0)) || decide (l > c)) = false := by
          simp; omega
        have hz1 : ∀ (X : Sem (Array Value)), X = (if c.toNat * i.size = 0 then pure #[] else do pure (← zeroValue elem).cells) → X.run P w = .ok (if c.toNat * i.size = 0 then #[] else z.cells) w := by
          intro X hX; rw [hX]; split <;> simp [q1]
        have : (do pure (.value (← Instr.makeSlice t (.int k1 l) (.int k2 c))) : Sem Next).run P w = .ok (.value (.slice (some ⟨w.heap.size, 0, none⟩) l.toNat c.toNat)) { w with heap := w.heap.push (.cells (zerosE z.cells.toList c.toNat).toArray elem (0, 0)) } := by
          by_cases h0 : c.toNat * i.size = 0
          · have hz0 : zerosE z.cells.toList c.toNat = [] := by
              apply List.eq_nil_of_length_eq_zero
              rw [length_zerosE, c1]; exact h0
            have hr1 : (Array.range 0).map (fun _ => (default : Value)) = #[] := by apply Array.ext'; simp
            simp only [Instr.makeSlice, Sem.run_bind, run_underlying_of hu, Result.andThen_ok, asInt, asIntOf, Sem.run_pure, run_typeInfo_of hi, hwl, hwc, hcond, run_sizeOf_of hi, run_askRoom, h0, if_true, Bool.false_eq_true, if_false]
            simp [hr1, newRow, hz0]
          · have hmap := zeros_model z.cells c.toNat
            rw [hzs] at hmap
            simp only [Instr.makeSlice, Sem.run_bind, run_underlying_of hu, Result.andThen_ok, asInt, asIntOf, Sem.run_pure, run_typeInfo_of hi, hwl, hwc, hcond, run_sizeOf_of hi, run_askRoom, h0, q1, Bool.false_eq_true, if_false, hzs, hmap, newRow, run_newObj]
        rw [this]
        exact .val (.newSlice rfl _ _ _ (.inl ⟨by unfold U; omega, rfl⟩))
      · cases e
    · cases e
  · cases e

def makeMapE (P : Program) (t : TypeId) (hint : Option Value) (h : Heap) (n : Nat) : Option (ARes × Heap × Nat) :=
  match hint, P.underlying t with
  | none, _ => some (.val (.map (some n)), h.set n (.map []), n + 1)
  | some (.int _ _), some (.map _ _) => some (.val (.map (some n)), h.set n (.map []), n + 1)
  | _, _ => none

theorem makeMapE_sound {P : Program} {μ : Mu} {h : Heap} {n : Nat} {w : World} (r : Rel P μ h n w) {t : TypeId} {x x' : Option Value} (hx : ORelV μ x x') {y : ARes × Heap × Nat} (e : makeMapE P t x h n = some y) :
    ARun P (do pure (.value (← Instr.makeMap t x'))) μ h n w y := by
  obtain ⟨g1, g2⟩ := r.push (.map []) (.map #[] 0) ⟨w.heap.size, 0, 0, 0⟩ rfl r.globs ⟨rfl, rfl, by simp, by simp, by simp⟩
  have hv : VRel (μ.set n ⟨w.heap.size, 0, 0, 0⟩) (.map (some n)) (.map (some w.heap.size)) := .map (m := ⟨w.heap.size, 0, 0, 0⟩) (Mu.set_same _ _ _)
  unfold makeMapE at e
  split at e
  · cases e
    cases hx
    refine ⟨_, _, ?_, g1, g2, Nat.le_succ _⟩
    have : (do pure (.value (← Instr.makeMap t none)) : Sem Next).run P w = .ok (.value (.map (some w.heap.size))) { w with heap := w.heap.push (.map #[] 0) } := by
      simp [Instr.makeMap]
    rw [this]
    exact .val hv
  · rename_i k i kt el hu
    cases e
    cases hx with
    | some hx =>
      cases hx
      refine ⟨_, _, ?_, g1, g2, Nat.le_succ _⟩
      have : (do pure (.value (← Instr.makeMap t (some (.int k i)))) : Sem Next).run P w = .ok (.value (.map (some w.heap.size))) { w with heap := w.heap.push (.map #[] 0) } := by
        simp [Instr.makeMap, run_underlying_of hu, asInt, asIntOf]
      rw [this]
      exact .val hv
  · cases e

def storeOpE (P : Program) (t : TypeId) (a x : Value) (h : Heap) (n : Nat) : Option (ARes × Heap × Nat) :=
  match storeE P t a x h with
  | some h' => some (.skip, h', n)
  | none => none

theorem storeOpE_sound {P : Program} {μ : Mu} {h : Heap} {n : Nat} {w : World} (r : Rel P μ h n w) {t : TypeId} {a a' v v' : Value} (ha : VRel μ a a') (hv : VRel μ v v') {y : ARes × Heap × Nat} (e : storeOpE P t a v h n = some y) :
    ARun P (do Instr.storeAt t a' v'; pure .skip) μ h n w y := by
  unfold storeOpE at e
  split at e
  · rename_i h' hs
    cases e
    obtain ⟨w', q1, q2, q3⟩ := storeE_sound r ha hv hs
    refine ⟨μ, w', ?_, q2, q3, Nat.le_refl _⟩
    have : (do Instr.storeAt t a' v'; pure .skip : Sem Next).run P w = .ok .skip w' := by simp [q1]
    rw [this]
    exact .skip
  · cases e

/-! Maps: an entry set. -/
def setEntry (es : List (Value × Value)) (i : Nat) (v : Value) : List (Value × Value) :=
  match es, i with
  | [], _ => []
  | (k, _) :: r, 0 => (k, v) :: r
  | e :: r, i + 1 => e :: setEntry r i v

theorem setEntry_get (v : Value) : ∀ (es : List (Value × Value)) (i j : Nat), (setEntry es i v)[j]? = (es[j]?).map fun e => if j = i then (e.1, v) else e := by
  intro es
  induction es with
  | nil => intro i j; simp [setEntry]
  | cons e es ih =>
    intro i j
    obtain ⟨k, v0⟩ := e
    cases i with
    | zero =>
      cases j with
      | zero => simp [setEntry]
      | succ j => simp [setEntry]
    | succ i =>
      cases j with
      | zero => simp [setEntry]
      | succ j => simp [setEntry, ih]

def mapUpdateE (P : Program) (t : TypeId) (m k v : Value) (h : Heap) (n : Nat) : Option (ARes × Heap × Nat) :=
  match P.underlying t, m with
  | some (.map kt _), .map (some r) =>
    match h.get r with
    | some (.map es) =>
      if flat k then
        match pureRun P (Instr.checkKey false 10000 kt k), P.underlying kt, findE P kt k es 0 with
        | some _, some _, some (some i) => match es[i]? with
          | some e => if flat e.1 && Instr.sameBits 10000 e.1 k then some (.skip, h.set r (.map ((setEntry es i v).modify i fun e => (k, e.2))), n) else none
          | none => none
        | some _, some _, some none => some (.skip, h.set r (.map (es ++ [(k, v)])), n)
        | _, _, _ => none
      else none
    | _ => none
  | _, _ => none

theorem mapUpdateE_sound {P : Program} {μ : Mu} {h : Heap} {n : Nat} {w : World} (r : Rel P μ h n w) {t : TypeId} {m m' k k' v v' : Value} (hm : VRel μ m m') (hk : VRel μ k k') (hv : VRel μ v v') {y : ARes × Heap × Nat} (e : mapUpdateE P t m k v h n = some y) :
    ARun P (do Instr.mapUpdate t m' k' v'; pure .skip) μ h n w y := by
  unfold mapUpdateE at e
  split at e
  · rename_i kt el b hu
    cases hm with
    | map hmu =>
      rename_i m0
      split at e
      · rename_i es hb
        split at e
        · rename_i hf
          rw [hk.flat_eq hf]
          obtain ⟨m1, x1, f1, f2, f3⟩ := r.obj b _ hb
          rw [hmu] at f1; cases f1
          cases x1 with
          | map es' clock =>
            obtain ⟨g0, g1, g2, g3, g4⟩ := f3
            have he : ERelM μ es es'.toList := ERelM.of_get (by simpa using g1) (fun i e he => by simpa using g2 i e he)
            have hget : (getObj m0.blk).run P w = .ok (.map es' clock) w := by simp [getObj, Sem.run, f2]
            have hset : ∀ x, (∀ c e f, x ≠ .cells c e f) → (setObj m0.blk x).run P w = .ok () { w with heap := w.heap.setIfInBounds m0.blk x } := by
              intro x _; simp [setObj, Sem.run, f2]
            split at e
            · rename_i u d i hck hkt hfd
              have hfind := findKey_sound (P := P) hkt w he hfd
              have hchk := pureRun_run _ w hck
              split at e
              · rename_i en hen
                split at e
                · rename_i hsame
                  simp only [Bool.and_eq_true] at hsame
                  cases e
                  obtain ⟨e', q1, q2, q3⟩ := he.get hen
                  have hq1 : es'[i]? = some e' := by simpa using q1
                  rw [Option.bind_some, q1, Option.map_some] at hfind
                  have hkey : e'.key = en.1 := q2.flat_eq hsame.1
                  have hstay : (Instr.keyThatStays (((es'[i]?).map (·.key)).getD k) k).run P w = .ok k w := by
                    rw [hq1]
                    simp [Instr.keyThatStays, hkey, hsame.2]
                  have hrun : (do Instr.mapUpdate t (.map (some m0.blk)) k v'; pure .skip : Sem Next).run P w = .ok .skip { w with heap := w.heap.setIfInBounds m0.blk (.map (es'.modify i fun e => { e with key := k, val := v' }) clock) } := by
                    simp only [Instr.mapUpdate, Sem.run_bind, run_underlying_of hu, Result.andThen_ok, hget, hchk, hfind, hstay]
                    rw [hset _ (by simp)]
                    rfl
                  have hturn := r.turn (o' := .map ((setEntry es i v).modify i fun e => (k, e.2))) (.map (es'.modify i fun e => { e with key := k, val := v' }) clock) hb rfl hmu
                    (w' := { w with heap := w.heap.setIfInBounds m0.blk (.map (es'.modify i fun e => { e with key := k, val := v' }) clock) }) ?_ rfl rfl rfl rfl
                  · refine ⟨μ, _, ?_, hturn.1, hturn.2, Nat.le_refl _⟩
                    rw [hrun]
                    exact .skip
                  · refine ⟨g0, ?_, ?_, ?_, ?_⟩
                    · rw [List.length_modify, Array.size_modify, ← g1]
                      have : ∀ (l : List (Value × Value)) (i : Nat), (setEntry l i v).length = l.length := by
                        intro l; induction l with
                        | nil => intro i; rfl
                        | cons a l ih => intro i; cases i <;> simp [setEntry, ih]
                      exact this es i
                    · intro j a hj
                      rw [List.getElem?_modify, setEntry_get] at hj
                      cases hej : es[j]? with
                      | none => rw [hej] at hj; simp at hj
                      | some ej =>
                        rw [hej] at hj
                        obtain ⟨ej', p1, p2, p3⟩ := g2 j ej hej
                        by_cases hij : i = j
                        · subst hij
                          simp at hj
                          subst hj
                          exact ⟨{ ej' with key := k, val := v' }, by rw [Array.getElem?_modify]; simp [p1], .flat_self hf, hv⟩
                        · have hji : ¬ j = i := fun h => hij h.symm
                          simp [hij, hji] at hj
                          subst hj
                          exact ⟨ej', by rw [Array.getElem?_modify]; simp [hij, p1], p2, p3⟩
                    · intro j a hj
                      rw [Array.getElem?_modify] at hj
                      split at hj
                      · simp only [Option.map_eq_some_iff] at hj
                        obtain ⟨a0, h1, rfl⟩ := hj
                        exact g3 j a0 h1
                      · exact g3 j a hj
                    · intro j1 j2 a1 a2 hlt h1 h2
                      have hb : ∀ (j : Nat) (a : MapEntry), (es'.modify i fun e => { e with key := k, val := v' })[j]? = some a → ∃ a0 : MapEntry, es'[j]? = some a0 ∧ a0.born = a.born := by
                        intro j a hj
                        rw [Array.getElem?_modify] at hj
                        split at hj
                        · simp only [Option.map_eq_some_iff] at hj
                          obtain ⟨a0, h1, rfl⟩ := hj
                          exact ⟨a0, h1, rfl⟩
                        · exact ⟨a, hj, rfl⟩
                      obtain ⟨b1, c1, c2⟩ := hb j1 a1 h1
                      obtain ⟨b2, c3, c4⟩ := hb j2 a2 h2
                      rw [← c2, ← c4]
                      exact g4 j1 j2 b1 b2 hlt c1 c3
                · cases e
              · cases e
            · rename_i u d hck hkt hfd
              have hfind := findKey_sound (P := P) hkt w he hfd
              have hchk := pureRun_run _ w hck
              cases e
              rw [Option.bind_none] at hfind
              have hrun : (do Instr.mapUpdate t (.map (some m0.blk)) k v'; pure .skip : Sem Next).run P w = .ok .skip { w with heap := w.heap.setIfInBounds m0.blk (.map (es'.push { key := k, val := v', born := clock }) (clock + 1)) } := by
                simp only [Instr.mapUpdate, Sem.run_bind, run_underlying_of hu, Result.andThen_ok, hget, hchk, hfind]
                rw [hset _ (by simp)]
                rfl
              have hturn := r.turn (o' := .map (es ++ [(k, v)])) (.map (es'.push { key := k, val := v', born := clock }) (clock + 1)) hb rfl hmu
                (w' := { w with heap := w.heap.setIfInBounds m0.blk (.map (es'.push { key := k, val := v', born := clock }) (clock + 1)) }) ?_ rfl rfl rfl rfl
              · refine ⟨μ, _, ?_, hturn.1, hturn.2, Nat.le_refl _⟩
                rw [hrun]
                exact .skip
              · refine ⟨g0, by simp [g1], ?_, ?_, ?_⟩
                · intro j a hj
                  by_cases hlt : j < es.length
                  · rw [List.getElem?_append_left hlt] at hj
                    obtain ⟨e', p1, p2, p3⟩ := g2 j a hj
                    exact ⟨e', by rw [Array.getElem?_push, if_neg (by omega)]; exact p1, p2, p3⟩
                  · rw [List.getElem?_append_right (by omega)] at hj
                    have hj0 : j = es.length := by
                      have := (List.getElem?_eq_some_iff.1 hj).1
                      simp at this; omega
                    subst hj0
                    simp at hj
                    subst hj
                    exact ⟨{ key := k, val := v', born := clock }, by rw [Array.getElem?_push, if_pos g1], .flat_self hf, hv⟩
                · intro j a hj
                  rw [Array.getElem?_push] at hj
                  split at hj
                  · cases hj; simp
                  · have := g3 j a hj; omega
                · intro j1 j2 a1 a2 hlt h1 h2
                  rw [Array.getElem?_push] at h1 h2
                  split at h1
                  · rename_i h
                    split at h2
                    · omega
                    · have := (Array.getElem?_eq_some_iff.1 h2).1; omega
                  · split at h2
                    · cases h2; exact g3 j1 a1 h1
                    · exact g4 j1 j2 a1 a2 hlt h1 h2
            · cases e
          | _ => exact f3.elim
        · cases e
      · cases e
  · cases e
end Go.Abs

/- Appends, copies, bytes of a string. -/
namespace Go.Abs
open Go

/-- The cells of what is appended: a slice's, or a string's bytes; and how many elements. -/
def srcE (h : Heap) (size : Nat) (x : Value) : Option (List Value × Nat) :=
  match x with
  | .slice none 0 0 => some ([], 0)
  | .slice (some ⟨b, o, none⟩) len _ => match rowE h b o (len * size) with
    | some xs => some (xs, len)
    | none => none
  | .string s => if size = 1 then some (s.data.toList.map fun b => .int .u8 b.toNat, s.data.toList.length) else none
  | _ => none

theorem srcE_sound {P : Program} {μ : Mu} {h : Heap} {n : Nat} {w : World} (r : Rel P μ h n w) {size : Nat} {x x' : Value} (hx : VRel μ x x') {xs : List Value} {len : Nat} (e : srcE h size x = some (xs, len)) :
    ∃ xs' : List Value, LRel μ xs xs' ∧ xs'.length = len * size ∧ (∀ d, (Builtin.lenOf x').run P { w with drawn := d } = .ok len { w with drawn := d }) ∧ ∀ d, (Builtin.firstCells size len x').run P { w with drawn := d } = .ok xs'.toArray { w with drawn := d } := by
  unfold srcE at e
  split at e
  · cases e
    cases hx
    exact ⟨[], .nil, by simp, fun _ => rfl, fun _ => rfl⟩
  · rename_i b o len0 cap
    cases hx with
    | slice _ _ _ cap' hm hc =>
      split at e
      · rename_i ys hy
        cases e
        obtain ⟨m, xs', f1, f2, f3, f4, f5⟩ := rowE_sound r hm hy
        rw [hm] at f1; cases f1
        refine ⟨xs', f5.list, f2, fun _ => rfl, fun d => ?_⟩
        simp only [Builtin.firstCells]
        rw [← f2]
        exact run_loadCells xs' f4
      · cases e
  · rename_i s
    cases hx
    split at e
    · rename_i hs
      cases e
      refine ⟨s.data.toList.map fun b => .int .u8 b.toNat, LRel.flat (by rw [List.all_eq_true]; intro y hy; simp at hy; obtain ⟨b, _, rfl⟩ := hy; rfl), by simp [hs], fun d => by simp [Builtin.lenOf], fun d => ?_⟩
      simp only [Builtin.firstCells, Sem.run_pure]
      congr 1
      apply Array.ext'
      simp
    · cases e
  · cases e

theorem growBy_le (need : Nat) : ∀ (k c : Nat), c ≤ need → Builtin.growBy need k c ≤ 2 * need + 768 := by
  intro k
  induction k with
  | zero => intro c h; simp [Builtin.growBy]; omega
  | succ k ih =>
    intro c h
    simp only [Builtin.growBy]
    split
    · omega
    · by_cases h2 : c + (c + 768) / 4 ≤ need
      · exact ih _ h2
      · have : Builtin.growBy need k (c + (c + 768) / 4) = c + (c + 768) / 4 := by
          cases k with
          | zero => rfl
          | succ k => simp only [Builtin.growBy]; rw [if_pos (by omega)]
        rw [this]; omega

theorem nextcap_le {need old : Nat} (h : old < need) : Builtin.nextslicecap need old ≤ 2 * need + 768 := by
  unfold Builtin.nextslicecap
  split
  · omega
  · split
    · omega
    · exact growBy_le need 4 old (by omega)

/-- The parts of 'append' of rows, where the second one is no number. -/
def appendE (P : Program) (ts : List TypeId) (args : List Value) (h : Heap) (n : Nat) : Option (ARes × Heap × Nat) :=
  match ts, args with
  | st :: rest, [s, x] =>
    match P.underlying st, (match rest with
      | [] => true
      | xt :: _ => match P.underlying xt with
        | some (.int _) => false
        | some _ => true
        | none => false) with
    | some (.slice elem), true =>
      match P.info? elem, zeroOf P elem with
      | some i, some z =>
        if z.cells.toList.length = i.size ∧ 0 < i.size then
        match srcE h i.size x with
        | some (xs, m) =>
          if xs.all (fun v => v.oneCell') then
          match s with
          | .slice none 0 0 =>
            if m = 0 then some (.val s, h, n)
            else if (2 * m + 768) * i.bytes ≤ 2 ^ 48 ∧ m < 2 ^ 62 then
              some (.val (.slice (some ⟨n, 0, none⟩) m U), h.set n (.cells xs true ⟨elem, i.size, false⟩), n + 1)
            else none
          | .slice (some ⟨b, o, none⟩) len cap =>
            if m = 0 then (if len ≤ cap then some (.val s, h, n) else none)
            else if (2 * (len + m) + 768) * i.bytes ≤ 2 ^ 48 ∧ len + m < 2 ^ 62 then
              if cap = U then
                match h.get b with
                | some (.cells cs true ci) =>
                  if ci.k = i.size ∧ o + len * i.size = cs.length ∧ ci.e = elem then
                    some (.val (.slice (some ⟨n, 0, none⟩) (len + m) U), (h.del b).set n (.cells (cs.drop o ++ xs) true ⟨elem, i.size, false⟩), n + 1)
                  else none
                | _ => none
              else if len + m ≤ cap then
                match h.get b with
                | some (.cells cs true ci) =>
                  if o + (len + m) * i.size ≤ cs.length then
                    some (.val (.slice (some ⟨b, o, none⟩) (len + m) cap), h.set b (.cells (setAll cs (o + len * i.size) xs) true ci), n)
                  else none
                | _ => none
              else if len ≤ cap then
                match rowE h b o (len * i.size) with
                | some old => some (.val (.slice (some ⟨n, 0, none⟩) (len + m) U), h.set n (.cells (old ++ xs) true ⟨elem, i.size, false⟩), n + 1)
                | none => none
              else none
            else none
          | _ => none
          else none
        | none => none
        else none
      | _, _ => none
    | _, _ => none
  | _, _ => none

/-- The run of a growing append. -/
theorem run_append_grow {P : Program} {w : World} {ts : Array TypeId} {ty st elem : TypeId} {i : TypeInfo} {z : Value} {base : Option Addr} {len cap : Nat} {x' : Value} {m : Nat} {old xs' : List Value}
    (h0 : ts[0]? = some st) (hu : P.underlying st = some (.slice elem)) (hi : P.info? elem = some i)
    (hzeros : ts[1]? = none ∨ ∃ xt d, ts[1]? = some xt ∧ P.underlying xt = some d ∧ ∀ k, d ≠ .int k)
    (hl : (Builtin.lenOf x').run P w = .ok m w) (hgrow : cap < len + m)
    (hb : (2 * (len + m) + 768) * i.bytes ≤ 2 ^ 48) (hm2 : len + m < 2 ^ 62)
    (hold : ∀ d, (Builtin.firstCells i.size len (.slice base len cap)).run P { w with drawn := d } = .ok old.toArray { w with drawn := d })
    (hnew : ∀ d, (Builtin.firstCells i.size m x').run P { w with drawn := d } = .ok xs'.toArray { w with drawn := d })
    (hzd : ∀ d, (zeroValue elem).run P { w with drawn := d } = .ok z { w with drawn := d }) :
    ∃ newCap, len + m ≤ newCap ∧ (Builtin.append_ ts ty #[.slice base len cap, x']).run P w =
      .ok (.slice (some ⟨w.heap.size, 0, none⟩) (len + m) newCap) { w with drawn := w.drawn + 1, heap := w.heap.push (.cells (old ++ xs' ++ zerosE z.cells.toList (newCap - (len + m))).toArray elem (0, 0)) } := by
  refine ⟨(Question.appendCap (len + m) cap elem).cut (w.tape w.drawn (.appendCap (len + m) cap elem)), Nat.le_add_right _ _, ?_⟩
  have hnc : ¬ (Builtin.nextslicecap (len + m) cap * i.bytes > 2 ^ 48) := by
    have := Nat.mul_le_mul_right i.bytes (nextcap_le hgrow)
    omega
  have hint : ¬ (((len + m : Nat) : Int) > IntKind.i64.max) := by
    have : IntKind.i64.max = 9223372036854775807 := rfl
    rw [this]; omega
  have hnle : ¬ (len + m ≤ cap) := by omega
  have hzc : ∀ k, Builtin.zeroCells z.cells k = (zerosE z.cells.toList k).toArray := by
    intro k; exact zeros_model z.cells k
  rcases hzeros with h1 | ⟨xt, d, h1, hd, hni⟩
  · simp only [Builtin.append_, h0, h1, List.getElem?_toArray, List.getElem?_cons_zero, List.getElem?_cons_succ, Sem.run_bind, run_underlying_of hu, Result.andThen_ok, run_sizeOf_of hi, Sem.run_pure, Bool.false_eq_true, if_false, hl, hnle, run_typeInfo_of hi]
    rw [if_neg (by rintro ⟨h, _⟩; exact hint h)]
    simp only [Sem.run_bind, run_typeInfo_of hi, Result.andThen_ok]
    rw [if_neg hnc]
    simp only [run_choose, Question.forced, Bool.false_eq_true, if_false, Result.andThen_ok, run_askRoom, Bool.not_false, if_true, Sem.run_bind, run_typeInfo_of hi]
    rw [hold]
    simp only [Result.andThen_ok]
    rw [hnew]
    simp only [Result.andThen_ok]
    rw [hzd]
    simp only [Result.andThen_ok, newRow, hzc, Sem.run_pure]
    simp
    exact ⟨rfl, rfl, rfl⟩
  · cases d <;> first
      | exact (hni _ rfl).elim
      | (simp only [Builtin.append_, h0, h1, List.getElem?_toArray, List.getElem?_cons_zero, List.getElem?_cons_succ, Sem.run_bind, run_underlying_of hu, run_underlying_of hd, Result.andThen_ok, run_sizeOf_of hi, Sem.run_pure, Bool.false_eq_true, if_false, hl, hnle, run_typeInfo_of hi]
         rw [if_neg (by rintro ⟨h, _⟩; exact hint h)]
         simp only [Sem.run_bind, run_typeInfo_of hi, Result.andThen_ok]
         rw [if_neg hnc]
         simp only [run_choose, Question.forced, Bool.false_eq_true, if_false, Result.andThen_ok, run_askRoom, Bool.not_false, if_true, Sem.run_bind, run_typeInfo_of hi]
         rw [hold]
         simp only [Result.andThen_ok]
         rw [hnew]
         simp only [Result.andThen_ok]
         rw [hzd]
         simp only [Result.andThen_ok, newRow, hzc, Sem.run_pure]
         simp
         exact ⟨rfl, rfl, rfl⟩)

/-- The run of an append within the capacity. -/
theorem run_append_place {P : Program} {w w' : World} {ts : Array TypeId} {ty st elem : TypeId} {i : TypeInfo} {a : Addr} {len cap : Nat} {x' : Value} {m : Nat} {xs' : List Value}
    (h0 : ts[0]? = some st) (hu : P.underlying st = some (.slice elem)) (hi : P.info? elem = some i)
    (hzeros : ts[1]? = none ∨ ∃ xt d, ts[1]? = some xt ∧ P.underlying xt = some d ∧ ∀ k, d ≠ .int k)
    (hl : (Builtin.lenOf x').run P w = .ok m w) (hle : len + m ≤ cap)
    (hnew : (Builtin.firstCells i.size m x').run P w = .ok xs'.toArray w)
    (hst : (storeCells (a.add (len * i.size)) xs').run P w = .ok () w') :
    (Builtin.append_ ts ty #[.slice (some a) len cap, x']).run P w = .ok (.slice (some a) (len + m) cap) w' := by
  rcases hzeros with h1 | ⟨xt, d, h1, hd, hni⟩
  · simp only [Builtin.append_, h0, h1, List.getElem?_toArray, List.getElem?_cons_zero, List.getElem?_cons_succ, Sem.run_bind, run_underlying_of hu, Result.andThen_ok, run_sizeOf_of hi, Sem.run_pure, Bool.false_eq_true, if_false, hl, hle, if_true, Bool.not_false]
    rw [hnew]
    simp only [Result.andThen_ok]
    rw [hst]
    rfl
  · cases d <;> first
      | exact (hni _ rfl).elim
      | (simp only [Builtin.append_, h0, h1, List.getElem?_toArray, List.getElem?_cons_zero, List.getElem?_cons_succ, Sem.run_bind, run_underlying_of hu, run_underlying_of hd, Result.andThen_ok, run_sizeOf_of hi, Sem.run_pure, Bool.false_eq_true, if_false, hl, hle, if_true, Bool.not_false]
         rw [hnew]
         simp only [Result.andThen_ok]
         rw [hst]
         rfl)

/-- The run of an append of nothing. -/
theorem run_append_none {P : Program} {w : World} {ts : Array TypeId} {ty st elem : TypeId} {i : TypeInfo} {base : Option Addr} {len cap : Nat} {x' : Value}
    (h0 : ts[0]? = some st) (hu : P.underlying st = some (.slice elem)) (hi : P.info? elem = some i)
    (hzeros : ts[1]? = none ∨ ∃ xt d, ts[1]? = some xt ∧ P.underlying xt = some d ∧ ∀ k, d ≠ .int k)
    (hl : (Builtin.lenOf x').run P w = .ok 0 w) (hle : len ≤ cap)
    (hnew : (Builtin.firstCells i.size 0 x').run P w = .ok #[] w) :
    (Builtin.append_ ts ty #[.slice base len cap, x']).run P w = .ok (.slice base len cap) w := by
  have hle' : len + 0 ≤ cap := hle
  rcases hzeros with h1 | ⟨xt, d, h1, hd, hni⟩
  · simp only [Builtin.append_, h0, h1, List.getElem?_toArray, List.getElem?_cons_zero, List.getElem?_cons_succ, Sem.run_bind, run_underlying_of hu, Result.andThen_ok, run_sizeOf_of hi, Sem.run_pure, Bool.false_eq_true, if_false, hl, hle', if_true, Bool.not_false]
    rw [hnew]
    simp only [Result.andThen_ok]
    cases base <;> rfl
  · cases d <;> first
      | exact (hni _ rfl).elim
      | (simp only [Builtin.append_, h0, h1, List.getElem?_toArray, List.getElem?_cons_zero, List.getElem?_cons_succ, Sem.run_bind, run_underlying_of hu, run_underlying_of hd, Result.andThen_ok, run_sizeOf_of hi, Sem.run_pure, Bool.false_eq_true, if_false, hl, hle', if_true, Bool.not_false]
         rw [hnew]
         simp only [Result.andThen_ok]
         cases base <;> rfl)
end Go.Abs

/- Appends: what they are on both sides. -/
namespace Go.Abs
open Go

theorem length_setAll_arr (xs cs : List Value) (o : Nat) : (setAll cs o xs).length = cs.length := length_setAll xs cs o

theorem get_setAll : ∀ (xs cs : List Value) (o i : Nat), o + xs.length ≤ cs.length → (setAll cs o xs)[i]? = if o ≤ i ∧ i < o + xs.length then xs[i - o]? else cs[i]? := by
  intro xs
  induction xs with
  | nil => intro cs o i _; simp only [setAll, List.length_nil]; rw [if_neg (by omega)]
  | cons x xs ih =>
    intro cs o i h
    simp only [List.length_cons] at h
    simp only [setAll]
    rw [ih _ _ _ (by simp; omega)]
    by_cases h1 : o + 1 ≤ i ∧ i < o + 1 + xs.length
    · rw [if_pos h1, if_pos (by simp only [List.length_cons]; omega)]
      obtain ⟨k, rfl⟩ : ∃ k, i = o + 1 + k := ⟨i - (o + 1), by omega⟩
      rw [show o + 1 + k - (o + 1) = k by omega, show o + 1 + k - o = k + 1 by omega]
      simp
    · rw [if_neg h1]
      by_cases h2 : i = o
      · subst h2
        rw [if_pos (by simp only [List.length_cons]; omega), List.getElem?_set_self (by omega), Nat.sub_self]
        rfl
      · rw [if_neg (by simp only [List.length_cons]; omega), List.getElem?_set_ne (Ne.symm h2)]

theorem run_storeCells_conc {P : Program} : ∀ (xs : List Value) (w : World) (b p i : Nat) (c : Array Value) (e : TypeId) (fr : Nat × Nat), w.heap[b]? = some (.cells c e fr) →
    (xs.all fun x => x.oneCell') = true → p + i + xs.length ≤ c.size → (∀ j, p ≤ j → j < c.size → ¬ (fr.1 ≤ j ∧ j < fr.2)) →
    (storeCells ⟨b, p, none⟩ xs i).run P w = .ok () { w with heap := w.heap.setIfInBounds b (.cells (setAll c.toList (p + i) xs).toArray e fr) } := by
  intro xs
  induction xs with
  | nil =>
    intro w b p i c e fr hb _ _ _
    simp only [storeCells, Sem.run_pure, setAll, Array.toArray_toList]
    congr 1
    obtain ⟨hlt, hx⟩ := Array.getElem?_eq_some_iff.1 hb
    have : w.heap.setIfInBounds b (.cells c e fr) = w.heap := by
      apply Array.ext
      · simp
      · intro j h1 h2
        rw [Array.getElem_setIfInBounds]
        split
        · rename_i h; subst h; exact hx.symm
        · rfl
    rw [this]
  | cons x xs ih =>
    intro w b p i c e fr hb h1 hle hfr
    simp only [List.all_cons, Bool.and_eq_true] at h1
    simp only [List.length_cons] at hle
    have hcell : w.cell? ⟨b, p + i, none⟩ = some (c[p + i]'(by omega)) := by rw [cell_of_block hb, Array.getElem?_eq_getElem]
    have hfro : w.frozen? ⟨b, p + i, none⟩ = false := by
      have := hfr (p + i) (by omega) (by omega)
      simp only [World.frozen?, hb]
      simpa [Bool.and_eq_true, decide_eq_true_eq] using this
    have hset : w.setCell ⟨b, p + i, none⟩ x = { w with heap := w.heap.setIfInBounds b (.cells (c.setIfInBounds (p + i) x) e fr) } := by
      simp only [World.setCell]
      rw [modify_of hb]
      simp
    obtain ⟨hlt, _⟩ := Array.getElem?_eq_some_iff.1 hb
    simp only [storeCells, Sem.run_bind, Addr.add_plain]
    rw [run_store P w _ _ _ h1.1, hcell]
    simp only [hfro, Bool.false_eq_true, if_false, Result.andThen_ok]
    rw [hset, ih _ b p (i + 1) (c.setIfInBounds (p + i) x) e fr (by simp [hlt]) h1.2 (by simp; omega) (fun j h1 h2 => hfr j h1 (by simpa using h2))]
    congr 2
    simp only [Array.setIfInBounds_setIfInBounds]
    congr 3
    simp [setAll, Nat.add_assoc]

theorem LRel.all_oneCell {μ : Mu} {xs ys : List Value} (h : LRel μ xs ys) (k : (xs.all fun x => x.oneCell') = true) : (ys.all fun x => x.oneCell') = true := by
  induction h with
  | nil => rfl
  | cons hx _ ih =>
    simp only [List.all_cons, Bool.and_eq_true] at k ⊢
    exact ⟨by rw [hx.oneCell]; exact k.1, ih k.2⟩

theorem LRel.drop {μ : Mu} {xs ys : List Value} (h : LRel μ xs ys) : ∀ k, LRel μ (xs.drop k) (ys.drop k) := by
  induction h with
  | nil => intro k; simp; exact .nil
  | cons hx ht ih =>
    intro k
    cases k with
    | zero => exact .cons hx ht
    | succ k => simpa using ih k

theorem appendE_sound {P : Program} {μ : Mu} {h : Heap} {n : Nat} {w : World} (r : Rel P μ h n w) {ts : Array TypeId} {args args' : List Value} (ha : LRel μ args args') {y : ARes × Heap × Nat} (e : appendE P ts.toList args h n = some y) (ty : TypeId) :
    ARun P (do pure (.value (← Builtin.append_ ts ty args'.toArray))) μ h n w y := by
  unfold appendE at e
  split at e
  · rename_i st rest s x hts
    cases ha with
    | cons hs ht =>
    cases ht with
    | cons hx ht =>
    cases ht
    rename_i s' x'
    have h0 : ts[0]? = some st := by rw [← Array.getElem?_toList, hts]; rfl
    split at e
    · rename_i elem hu hz0
      have hzeros : ts[1]? = none ∨ ∃ xt d, ts[1]? = some xt ∧ P.underlying xt = some d ∧ ∀ k, d ≠ .int k := by
        rw [← Array.getElem?_toList, hts]
        cases rest with
        | nil => exact .inl rfl
        | cons xt rest =>
          simp only at hz0
          split at hz0
          · cases hz0
          · rename_i d hni hd
            exact .inr ⟨xt, d, rfl, hd, fun k hk => hni k hk⟩
          · cases hz0
      split at e
      · rename_i i z hi hz
        split at e
        · rename_i hzl
          obtain ⟨hzl, hspos⟩ := hzl
          split at e
          · rename_i xs m hsrc
            obtain ⟨xs', l1, l2, l3, l4⟩ := srcE_sound r hx hsrc
            have hxl : xs.length = m * i.size := by rw [← l2, l1.length]
            split at e
            · rename_i hone
              have hzf := (zeroOf_run hz w).2.1
              have hzd : ∀ d, (zeroValue elem).run P { w with drawn := d } = .ok z { w with drawn := d } := fun d => (zeroOf_run hz _).1
              split at e
              · -- nil
                cases hs
                split at e
                · rename_i hm0
                  cases e
                  subst hm0
                  have hx0 : xs' = [] := List.eq_nil_of_length_eq_zero (by rw [l2]; simp)
                  refine ⟨μ, w, ?_, r, .refl _ _ _, Nat.le_refl _⟩
                  have hrun := run_append_none (P := P) (w := w) (ts := ts) (ty := ty) (base := none) (cap := 0) h0 hu hi hzeros (l3 w.drawn) (Nat.le_refl _) (by have := l4 w.drawn; rw [hx0] at this; exact this)
                  simp only [Sem.run_bind, hrun, Result.andThen_ok, Sem.run_pure]
                  exact .val .snil
                · rename_i hm0
                  split at e
                  · rename_i hb
                    cases e
                    obtain ⟨newCap, c1, hrun⟩ := run_append_grow (P := P) (w := w) (ts := ts) (ty := ty) (base := none) (len := 0) (cap := 0) (old := []) (xs' := xs') (m := m) (z := z) h0 hu hi hzeros (l3 w.drawn) (by omega) (by simpa using hb.1) (by omega) (fun _ => rfl) l4 hzd
                    obtain ⟨g1, g2⟩ := (Rel.of_heap (w := w) (w' := { w with drawn := w.drawn + 1 }) rfl r).row (rest := zerosE z.cells.toList (newCap - (0 + m))) l1 elem i.size false (by simp) (0, 0) (.inr (Nat.le_refl _))
                    simp only [List.nil_append] at hrun
                    refine ⟨_, _, ?_, g1, (Grow.drew μ h w _).trans g2, Nat.le_succ _⟩
                    simp only [Sem.run_bind, hrun, Result.andThen_ok, Sem.run_pure, Nat.zero_add]
                    refine .val (.newSlice rfl _ _ _ (.inr ⟨rfl, by omega, ?_⟩))
                    simp only [length_zerosE, hzl, l2, Nat.zero_add] at c1 ⊢
                    rw [← Nat.add_mul]
                    exact Nat.le_of_eq (by congr 1; omega)
                  · cases e
              · rename_i b o len cap
                cases hs with
                | slice _ _ _ cap' hm hcc =>
                rename_i m0
                split at e
                · rename_i hm0
                  split at e
                  · rename_i hlc
                    cases e
                    subst hm0
                    have hx0 : xs' = [] := List.eq_nil_of_length_eq_zero (by rw [l2]; simp)
                    refine ⟨μ, w, ?_, r, .refl _ _ _, Nat.le_refl _⟩
                    have hle : len ≤ cap' := by rcases hcc with ⟨_, rfl⟩ | ⟨_, h, _⟩ <;> omega
                    have hrun := run_append_none (P := P) (w := w) (ts := ts) (ty := ty) (base := some ⟨m0.blk, m0.off + o, none⟩) (cap := cap') h0 hu hi hzeros (l3 w.drawn) hle (by have := l4 w.drawn; rw [hx0] at this; exact this)
                    simp only [Sem.run_bind, hrun, Result.andThen_ok, Sem.run_pure]
                    exact .val (.slice _ _ _ _ hm hcc)
                  · cases e
                · rename_i hm0
                  split at e
                  · rename_i hb
                    split at e
                    · -- a capacity that is not known
                      rename_i hU
                      have hcc' : len ≤ cap' ∧ m0.off + o + cap' * m0.k ≤ m0.sz := by
                        rcases hcc with ⟨h, _⟩ | ⟨_, h⟩
                        · omega
                        · exact h
                      split at e
                      · rename_i cs ci hbk
                        split at e
                        · rename_i hk
                          obtain ⟨hk1, hk2, hk3⟩ := hk
                          cases e
                          obtain ⟨m1, x1, f1, f2, f3⟩ := r.obj b _ hbk
                          rw [hm] at f1; cases f1
                          cases x1 with
                          | cells c el fr =>
                            obtain ⟨g1, g2, g3, g4, g5, g6, g7⟩ := f3
                            by_cases hfit : len + m ≤ cap'
                            · -- in place
                              have hmul : m0.off + o + (len + m) * i.size ≤ c.size := by
                                have := Nat.mul_le_mul_right i.size hfit
                                rw [g5, hk1] at hcc'
                                omega
                              have hadd : (len + m) * i.size = len * i.size + m * i.size := Nat.add_mul _ _ _
                              have hst := run_storeCells_conc (P := P) xs' w m0.blk (m0.off + o + len * i.size) 0 c el fr f2 (l1.all_oneCell hone) (by omega) (fun j h1 h2 => g4 rfl j (by omega) h2)
                              have hrun := run_append_place (P := P) (ts := ts) (ty := ty) (a := ⟨m0.blk, m0.off + o, none⟩) (len := len) (cap := cap') h0 hu hi hzeros (l3 w.drawn) hfit (l4 w.drawn) (by rw [Addr.add_plain]; exact hst)
                              have hmv := r.move (o' := .cells (cs.drop o ++ xs) true ⟨elem, i.size, false⟩) (.cells (setAll c.toList (m0.off + o + len * i.size + 0) xs').toArray el fr) (m' := ⟨m0.blk, m0.off + o, m0.sz, m0.k⟩) r.globs hbk rfl hm rfl ?_
                                (w' := { w with heap := w.heap.setIfInBounds m0.blk (.cells (setAll c.toList (m0.off + o + len * i.size + 0) xs').toArray el fr) }) rfl rfl rfl rfl
                              · refine ⟨_, _, ?_, hmv.1, hmv.2, Nat.le_succ _⟩
                                simp only [Sem.run_bind, hrun, Result.andThen_ok, Sem.run_pure]
                                refine .val ?_
                                have hv := VRel.slice (μ := μ.set n ⟨m0.blk, m0.off + o, m0.sz, m0.k⟩) (b := n) 0 (len + m) U cap' (Mu.set_same _ _ _) (.inr ⟨rfl, hfit, hcc'.2⟩)
                                exact hv
                              · have hle : μ.le (μ.set n ⟨m0.blk, m0.off + o, m0.sz, m0.k⟩) := Mu.le_set (r.bound n (Nat.le_refl _))
                                refine ⟨by simp [g1, length_setAll], by simp [length_setAll]; omega, ?_, ?_, by simp [g5, hk1], by simp [g6, hk3], by simp⟩
                                · intro j v hj
                                  simp only [List.getElem?_toArray]
                                  rw [get_setAll _ _ _ _ (by simp; omega)]
                                  by_cases hjl : j < (cs.drop o).length
                                  · rw [List.getElem?_append_left hjl, List.getElem?_drop] at hj
                                    obtain ⟨v', p1, p2⟩ := g3 (o + j) v hj
                                    simp at hjl
                                    rw [if_neg (by omega)]
                                    exact ⟨v', by rw [← p1, show m0.off + (o + j) = m0.off + o + j by omega]; simp, p2.mono hle⟩
                                  · rw [List.getElem?_append_right (by omega)] at hj
                                    obtain ⟨v', p1, p2⟩ := l1.get hj
                                    simp at hjl
                                    have hjx := (List.getElem?_eq_some_iff.1 hj).1
                                    simp at hjx
                                    rw [if_pos (by rw [l2]; omega)]
                                    refine ⟨v', ?_, p2.mono hle⟩
                                    rw [← p1]; congr 1; simp; omega
                                · intro _ j h1 h2
                                  simp [length_setAll] at h1 h2
                                  exact g4 rfl j (by omega) h2
                            · -- a new array
                              have hrow : rowE h b o (len * i.size) = some (cs.drop o) := by
                                rw [rowE_of hbk (by omega)]
                                congr 1
                                rw [List.take_of_length_le]
                                simp; omega
                              obtain ⟨m2, old', p1, p2, p3, p4, p5⟩ := rowE_sound r hm hrow
                              rw [hm] at p1; cases p1
                              obtain ⟨newCap, c1, hrun⟩ := run_append_grow (P := P) (w := w) (ts := ts) (ty := ty) (base := some ⟨m0.blk, m0.off + o, none⟩) (len := len) (cap := cap') (old := old') (xs' := xs') (m := m) (z := z) h0 hu hi hzeros (l3 w.drawn) (by omega) hb.1 hb.2
                                (fun d => by simp only [Builtin.firstCells]; rw [← p2]; exact run_loadCells old' p4) l4 hzd
                              obtain ⟨q1, q2⟩ := (Rel.of_heap (w := w) (w' := { w with drawn := w.drawn + 1 }) rfl r).row (rest := zerosE z.cells.toList (newCap - (len + m))) (p5.list.append l1) elem i.size false (by simp) (0, 0) (.inr (Nat.le_refl _))
                              have hsub : Heap.sub ((Trie.del h b).set n (.cells (cs.drop o ++ xs) true ⟨elem, i.size, false⟩)) (h.set n (.cells (cs.drop o ++ xs) true ⟨elem, i.size, false⟩)) := by
                                intro j oj hj
                                rw [Trie.get_set] at hj ⊢
                                split at hj
                                · rename_i hjn; rw [if_pos hjn]; exact hj
                                · rename_i hjn
                                  rw [if_neg hjn]
                                  rw [Trie.get_del] at hj
                                  split at hj
                                  · cases hj
                                  · exact hj
                              refine ⟨_, _, ?_, q1.sub hsub, ((Grow.drew μ h w _).trans q2).sub hsub, Nat.le_succ _⟩
                              simp only [Sem.run_bind, hrun, Result.andThen_ok, Sem.run_pure]
                              refine .val (.newSlice rfl _ _ _ (.inr ⟨rfl, c1, ?_⟩))
                              simp only [length_zerosE, hzl, l2, List.length_append, p2]
                              rw [← Nat.add_mul, ← Nat.add_mul]
                              exact Nat.le_of_eq (by congr 1; omega)
                          | _ => exact f3.elim
                        · cases e
                      · cases e
                    · rename_i hU
                      have hcap : cap = cap' := by
                        rcases hcc with ⟨_, h⟩ | ⟨h, _⟩
                        · exact h
                        · exact (hU h).elim
                      subst hcap
                      split at e
                      · -- within a capacity that is known
                        rename_i hfit
                        split at e
                        · rename_i cs ci hbk
                          split at e
                          · rename_i hle
                            cases e
                            have hadd : (len + m) * i.size = len * i.size + m * i.size := Nat.add_mul _ _ _
                            obtain ⟨w', q1, h2, q2, r2, g2⟩ := run_storeCells hm xs xs' h w cs (o + len * i.size) 0 r hbk l1.arr hone (by omega)
                            have hext : ∀ j, (h.set b (.cells (setAll cs (o + len * i.size) xs) true ci)).get j = h2.get j := by
                              intro j; rw [q2 j, Trie.get_set]; rfl
                            have hrun := run_append_place (P := P) (ts := ts) (ty := ty) (a := ⟨m0.blk, m0.off + o, none⟩) (len := len) (cap := cap) h0 hu hi hzeros (l3 w.drawn) hfit (l4 w.drawn) (by rw [Addr.add_plain, Nat.add_assoc]; exact q1)
                            refine ⟨μ, w', ?_, r2.ext hext, g2.ext hext, Nat.le_refl _⟩
                            simp only [Sem.run_bind, hrun, Result.andThen_ok, Sem.run_pure]
                            exact .val (.slice _ _ _ _ hm (hcc.imp id fun h => ⟨h.1, by omega, h.2.2⟩))
                          · cases e
                        · cases e
                      · rename_i hfit
                        split at e
                        · rename_i hlc
                          split at e
                          · rename_i old hrow
                            cases e
                            obtain ⟨m2, old', p1, p2, p3, p4, p5⟩ := rowE_sound r hm hrow
                            rw [hm] at p1; cases p1
                            obtain ⟨newCap, c1, hrun⟩ := run_append_grow (P := P) (w := w) (ts := ts) (ty := ty) (base := some ⟨m0.blk, m0.off + o, none⟩) (len := len) (cap := cap) (old := old') (xs' := xs') (m := m) (z := z) h0 hu hi hzeros (l3 w.drawn) (by omega) hb.1 hb.2
                              (fun d => by simp only [Builtin.firstCells]; rw [← p2]; exact run_loadCells old' p4) l4 hzd
                            obtain ⟨q1, q2⟩ := (Rel.of_heap (w := w) (w' := { w with drawn := w.drawn + 1 }) rfl r).row (rest := zerosE z.cells.toList (newCap - (len + m))) (p5.list.append l1) elem i.size false (by simp) (0, 0) (.inr (Nat.le_refl _))
                            refine ⟨_, _, ?_, q1, (Grow.drew μ h w _).trans q2, Nat.le_succ _⟩
                            simp only [Sem.run_bind, hrun, Result.andThen_ok, Sem.run_pure]
                            refine .val (.newSlice rfl _ _ _ (.inr ⟨rfl, c1, ?_⟩))
                            simp only [length_zerosE, hzl, l2, List.length_append, p2]
                            rw [← Nat.add_mul, ← Nat.add_mul]
                            exact Nat.le_of_eq (by congr 1; omega)
                          · cases e
                        · cases e
                  · cases e
              · cases e
            · cases e
          · cases e
        · cases e
      · cases e
    · cases e
  · cases e
end Go.Abs

/- Operations that act, in one function; calls of functions. -/
namespace Go.Abs
open Go

/-- What is asked of a program, once. -/
structure POk (P : Program) : Prop where
  mixed : P.follows .mixedOrders = true
  named : ∀ (f : Nat) (fn : Func), P.funcs[f]? = some fn → (fn.name == "runtime.NumGoroutine") = false

def calleeE (P : Program) (f : Value) (args : List Value) : Option (FuncId × List Value) :=
  match f with
  | .func (.func k) first captured =>
    match P.funcs[k]? with
    | some fn => if fn.body.isSome then some (k, (first.toList ++ args) ++ captured.toList) else none
    | none => none
  | _ => none

theorem calleeE_sound {P : Program} (ok : POk P) {μ : Mu} {f f' : Value} {args args' : List Value} (hf : VRel μ f f') (ha : LRel μ args args') {k : FuncId} {as : List Value} (e : calleeE P f args = some (k, as)) (w : World) :
    ∃ as' : List Value, (do let d ← Deferred.ofValue f' args'.toArray; invoke d.target d.args).run P w = .ok (.enter k as'.toArray) w ∧ LRel μ as as' := by
  unfold calleeE at e
  split at e
  · rename_i k0 first captured
    cases hf with
    | func fn h1 h2 h3 h4 =>
      rename_i first' captured'
      have hr1 : LRel μ first.toList first'.toList := ARel.list ⟨h1, h3⟩
      have hr2 : LRel μ captured.toList captured'.toList := ARel.list ⟨h2, h4⟩
      split at e
      · rename_i fn hfn
        split at e
        · rename_i hb
          cases e
          refine ⟨(first'.toList ++ args') ++ captured'.toList, ?_, (hr1.append ha).append hr2⟩
          have hn := ok.named _ fn hfn
          have hbn : fn.body.isNone = false := by cases hbb : fn.body <;> simp_all
          simp only [Deferred.ofValue, invoke, callFunc, Sem.run_bind, run_program, Result.andThen_ok, hfn, hn, Bool.false_eq_true, if_false, hbn, Sem.run_pure]
          congr 2
          apply Array.ext'
          simp
        · cases e
      · cases e
  · cases e

/-- What is deferred: a function's value, and what it is called with. -/
def deferE (f : Value) (args : List Value) : Option Deferred :=
  match f with
  | .func fn first captured => some { target := .fn fn captured, args := (first.toList ++ args).toArray }
  | _ => none

theorem deferE_sound {P : Program} {μ : Mu} {f f' : Value} {args args' : List Value} (hf : VRel μ f f') (ha : LRel μ args args') {d : Deferred} (e : deferE f args = some d) (w : World) :
    ∃ d', (Deferred.ofValue f' args'.toArray).run P w = .ok d' w ∧ DRel μ d d' := by
  unfold deferE at e
  split at e
  · rename_i fn first captured
    cases e
    cases hf with
    | func fn h1 h2 h3 h4 =>
      rename_i first' captured'
      have hr1 : LRel μ first.toList first'.toList := ARel.list ⟨h1, h3⟩
      refine ⟨{ target := .fn fn captured', args := first' ++ args'.toArray }, rfl, .fn fn ⟨h2, h4⟩, ?_⟩
      have := (hr1.append ha).arr
      have e2 : (first'.toList ++ args').toArray = first' ++ args'.toArray := by apply Array.ext'; simp
      rw [e2] at this
      exact this
  · cases e

/-- A string gone over rune by rune. -/
def nextStrE (s : ByteArray) (pos : Nat) : Option (Value × Nat) :=
  if pos < s.data.toList.length then
    let r := Utf8.decode s pos
    some (.tuple #[.bool true, .int .i64 pos, .int .i32 r.1], pos + r.2)
  else none

def bytesOfE (P : Program) (s d : TypeId) (x : Value) (h : Heap) (n : Nat) : Option (ARes × Heap × Nat) :=
  match P.underlying s, P.underlying d, x with
  | some .string, some (.slice e), .string b => match P.underlying e with
    | some (.int .u8) => some (.val (.slice (some ⟨n, 0, none⟩) b.data.toList.length U), h.set n (.cells (b.data.toList.map fun c => .int .u8 c.toNat) true ⟨e, 1, false⟩), n + 1)
    | _ => none
  | _, _, _ => none

theorem modify_push (a : Array Obj) (x : Obj) (f : Obj → Obj) : (a.push x).modify a.size f = a.push (f x) := by
  apply Array.ext
  · simp
  · intro i h1 h2
    rw [Array.getElem_modify (by simpa using h1)]
    by_cases e : a.size = i
    · subst e; simp
    · have : i < a.size := by simp at h2; omega
      rw [if_neg e, Array.getElem_push_lt this, Array.getElem_push_lt this]

theorem flat_bytes (l : List UInt8) : ((l.map fun c => Value.int .u8 c.toNat).all flat) = true := by
  rw [List.all_eq_true]
  intro y hy
  simp at hy
  obtain ⟨b, _, rfl⟩ := hy
  rfl

theorem bytesOfE_sound {P : Program} {μ : Mu} {h : Heap} {n : Nat} {w : World} (r : Rel P μ h n w) {s d : TypeId} {x x' : Value} (hx : VRel μ x x') {y : ARes × Heap × Nat} (e : bytesOfE P s d x h n = some y) :
    ARun P (do pure (.value (← convert s d x'))) μ h n w y := by
  unfold bytesOfE at e
  split at e
  · rename_i el b hs hd
    cases hx
    split at e
    · rename_i he
      cases e
      let cap := (Question.appendCap b.size 0 el).cut (w.tape w.drawn (.appendCap b.size 0 el))
      have hcap : b.size ≤ cap := Nat.le_add_right _ _
      obtain ⟨g1, g2⟩ := (Rel.of_heap (w := w) (w' := { w with drawn := w.drawn + 1 }) rfl r).row (rest := List.replicate (cap - b.size) (.int .u8 0)) (LRel.flat (flat_bytes b.data.toList)) el 1 false (by simp) (cap, cap + 1) (.inl (by simp; omega))
      refine ⟨_, _, ?_, g1, (Grow.drew μ h w _).trans g2, Nat.le_succ _⟩
      have hrun : (convert s d (.string b)).run P w = .ok (.slice (some ⟨w.heap.size, 0, none⟩) b.size cap) { w with drawn := w.drawn + 1, heap := w.heap.push (.cells ((b.data.toList.map fun c : UInt8 => Value.int .u8 (c.toNat : Int)) ++ List.replicate (cap - b.size) (Value.int .u8 0)).toArray el (cap, cap + 1)) } := by
        have hc : (convert s d (.string b)).run P w = (Conv.stringToBytes el b).run P w := by
          simp [convert, run_underlying_of hs, run_underlying_of hd, run_underlying_of he]
        rw [hc]
        have harr : (b.data.map (fun c => Value.int .u8 (c.toNat : Int)) ++ Array.replicate (cap - b.size) (.int .u8 0) : Array Value) = ((b.data.toList.map fun c : UInt8 => Value.int .u8 (c.toNat : Int)) ++ List.replicate (cap - b.size) (Value.int .u8 0)).toArray := by
          apply Array.ext'; simp
        simp only [Conv.stringToBytes, Sem.run_bind, run_choose, Question.forced, Bool.false_eq_true, if_false, Result.andThen_ok]
        rw [show (Question.appendCap b.size 0 el).cut (w.tape w.drawn (.appendCap b.size 0 el)) = cap from rfl, harr]
        simp only [newRow, run_newObj, Result.andThen_ok, markStringish, Sem.run_bind, run_shape, World.shape?]
        simp [World.freeze, hcap, modify_push]
      simp only [Sem.run_bind, hrun, Result.andThen_ok, Sem.run_pure]
      refine .val ?_
      have := VRel.newSlice (μ := μ) (n := n) (m := ⟨w.heap.size, 0, (b.data.toList.map fun c => Value.int .u8 c.toNat).length + (List.replicate (cap - b.size) (Value.int .u8 0)).length, 1⟩) rfl b.data.toList.length U cap (.inr ⟨rfl, by simpa using hcap, by simp; omega⟩)
      simpa using this
    · cases e
  · cases e
end Go.Abs
