/- Operations that read memory: bytes as a string, maps; all calm operations. -/
import Derived.Test.YtkpjfibpaojelaaGreatDoorAbs11
import Derived.Laws.BytesString
namespace Go.Abs
open Go

def bytesE : List Value → Option (List Int)
  | [] => some []
  | .int .u8 n :: r => (bytesE r).map fun l => n :: l
  | _ :: _ => none

theorem bytesE_eq : ∀ {xs : List Value} {ns : List Int}, bytesE xs = some ns → xs = ns.map (Value.int .u8) := by
  intro xs
  induction xs with
  | nil => intro ns e; simp only [bytesE, Option.some.injEq] at e; subst e; rfl
  | cons x xs ih =>
    intro ns e
    cases x with
    | int k n =>
      cases k <;> simp only [bytesE, Option.map_eq_some_iff] at e <;> (try (cases e; done))
      obtain ⟨l, h1, rfl⟩ := e
      rw [List.map_cons, ← ih h1]
    | _ => simp [bytesE] at e

theorem LRel.ints {μ : Mu} : ∀ {ns : List Int} {ys : List Value}, LRel μ (ns.map (Value.int .u8)) ys → ys = ns.map (Value.int .u8) := by
  intro ns
  induction ns with
  | nil => intro ys h; cases h; rfl
  | cons n ns ih => intro ys h; cases h with
    | cons hx ht => cases hx; rw [List.map_cons, ih ht]

theorem foldl_push (ns : List Int) : ∀ s : ByteArray, ns.foldl (fun r n => r.push (UInt8.ofNat n.toNat)) s = ⟨(s.data.toList ++ ns.map fun n => UInt8.ofNat n.toNat).toArray⟩ := by
  induction ns with
  | nil => intro s; apply ByteArray.ext; simp
  | cons n ns ih =>
    intro s
    simp only [List.foldl_cons, List.map_cons]
    rw [ih]
    apply ByteArray.ext
    apply Array.ext'
    simp

def strOfE (P : Program) (s d : TypeId) (x : Value) (h : Heap) : Option Value :=
  match P.underlying s, P.underlying d, x with
  | some (.slice e), some .string, .slice (some ⟨b, o, none⟩) len _ =>
    match P.underlying e with
    | some (.int .u8) => match rowE h b o len with
      | some xs => match bytesE xs with
        | some ns => some (.string ⟨(ns.map fun n => UInt8.ofNat n.toNat).toArray⟩)
        | none => none
      | none => none
    | _ => none
  | some (.slice e), some .string, .slice none 0 0 => match P.underlying e with
    | some (.int .u8) => some (.string ⟨#[]⟩)
    | _ => none
  | _, _, _ => none

theorem strOfE_sound {P : Program} {μ : Mu} {h : Heap} {n : Nat} {w : World} (r : Rel P μ h n w) {s d : TypeId} {x x' v : Value} (hx : VRel μ x x') (e : strOfE P s d x h = some v) :
    (convert s d x').run P w = .ok v w ∧ VRel μ v v := by
  unfold strOfE at e
  split at e
  · rename_i el b o len cap hs hd
    cases hx with
    | slice _ _ _ cap' hm hcc =>
      rename_i m0
      split at e
      · rename_i he
        split at e
        · rename_i xs hxs
          split at e
          · rename_i ns hns
            cases e
            refine ⟨?_, .string _⟩
            obtain ⟨m, xs', f1, f2, f3, f4, f5⟩ := rowE_sound r hxs
            rw [hm] at f1; cases f1
            rw [bytesE_eq hns] at f5
            have hxs' : xs' = ns.map (Value.int .u8) := by
              have := f5.list
              simp only at this
              exact this.ints
            rw [run_convert_bytes_string w s d el _ _ _ hs he hd]
            rw [run_bytesToString (ns := ns)]
            · rw [foldl_push]; rfl
            · rw [← hxs', ← f2]; exact run_loadCells xs' f4
          · cases e
        · cases e
      · cases e
  · rename_i el hs hd
    cases hx
    split at e
    · rename_i he
      cases e
      refine ⟨?_, .string _⟩
      rw [run_convert_bytes_string w s d el _ _ _ hs he hd]
      rfl
    · cases e
  · cases e

/-! Maps. -/
/-- Whether two keys are the same. -/
def keyEqE (P : Program) (t : TypeId) (a b : Value) : Option Bool :=
  if flat a && flat b then pureRun P (Op.equal t a b) else none

def findE (P : Program) (t : TypeId) (k : Value) : List (Value × Value) → Nat → Option (Option Nat)
  | [], _ => some none
  | e :: es, i => match keyEqE P t k e.1 with
    | some true => some (some i)
    | some false => findE P t k es (i + 1)
    | none => none

theorem sameNow_of {P : Program} {t : TypeId} {d : TypeDesc} (hd : P.underlying t = some d) {a b : Value} {r : Bool} (e : pureRun P (Op.equal t a b) = some r) : Instr.sameNow d a b = some r ∨ Instr.sameNow d a b = none := by
  have h := pureRun_run _ (default : World) e
  unfold Op.equal at h
  obtain ⟨n, hn⟩ : ∃ n, Op.maxDepth = n + 1 := ⟨9999, rfl⟩
  rw [hn] at h
  cases d <;> cases a <;> cases b <;> (try exact .inr rfl) <;> simp only [Instr.sameNow]
  · simp [Op.equalIn, run_underlying_of hd] at h; simp [h]
  · rename_i k1 k2 n1 k3 n2
    simp only [Op.equalIn, Sem.run_bind, run_underlying_of hd, Result.andThen_ok] at h
    split
    · rename_i hk; subst hk; simp at h; simp [h]
    · exact .inr rfl
  · simp [Op.equalIn, run_underlying_of hd] at h; simp [h]

inductive ERelM (μ : Mu) : List (Value × Value) → List MapEntry → Prop
  | nil : ERelM μ [] []
  | cons {k v : Value} {e : MapEntry} {es : List (Value × Value)} {es' : List MapEntry} (hk : VRel μ k e.key) (hv : VRel μ v e.val) (t : ERelM μ es es') : ERelM μ ((k, v) :: es) (e :: es')

theorem ERelM.of_get {μ : Mu} : ∀ {es : List (Value × Value)} {es' : List MapEntry}, es.length = es'.length →
    (∀ (i : Nat) (e : Value × Value), es[i]? = some e → ∃ e' : MapEntry, es'[i]? = some e' ∧ VRel μ e.1 e'.key ∧ VRel μ e.2 e'.val) → ERelM μ es es' := by
  intro es
  induction es with
  | nil => intro es' hl _; cases es' with
    | nil => exact .nil
    | cons => simp at hl
  | cons e es ih =>
    intro es' hl h
    cases es' with
    | nil => simp at hl
    | cons e' es' =>
      obtain ⟨e0, h1, h2, h3⟩ := h 0 e (by simp)
      simp at h1; subst h1
      exact .cons h2 h3 (ih (by simpa using hl) fun i x hx => by simpa using h (i + 1) x (by simpa using hx))

theorem ERelM.length {μ : Mu} {es : List (Value × Value)} {es' : List MapEntry} (h : ERelM μ es es') : es'.length = es.length := by
  induction h with
  | nil => rfl
  | cons _ _ _ ih => simp [ih]

theorem ERelM.get {μ : Mu} {es : List (Value × Value)} {es' : List MapEntry} (h : ERelM μ es es') : ∀ {i : Nat} {e : Value × Value}, es[i]? = some e → ∃ e' : MapEntry, es'[i]? = some e' ∧ VRel μ e.1 e'.key ∧ VRel μ e.2 e'.val := by
  induction h with
  | nil => intro i e h; simp at h
  | cons hk hv _ ih =>
    intro i e h
    cases i with
    | zero => simp at h; subst h; exact ⟨_, by simp, hk, hv⟩
    | succ i => simpa using ih (by simpa using h)

/-- Of a map's entries, what a key is found at. -/
theorem findE_sound {P : Program} {μ : Mu} {t : TypeId} {d : TypeDesc} (hd : P.underlying t = some d) {k : Value} (w : World) : ∀ {es : List (Value × Value)} {es' : List MapEntry}, ERelM μ es es' → ∀ {i : Nat} {r : Option Nat},
    findE P t k es i = some r →
    (match Instr.findNow d k es' i with
      | some x => x = r.bind fun j => (es'[j - i]?).map fun e => (j, e.val)
      | none => True) ∧
    (Instr.findAsking t k es' i).run P w = .ok (r.bind fun j => (es'[j - i]?).map fun e => (j, e.val)) w ∧ (∀ j, r = some j → i ≤ j ∧ j - i < es.length) := by
  intro es es' h
  induction h with
  | nil => intro i r e; simp only [findE, Option.some.injEq] at e; subst e; exact ⟨rfl, rfl, by simp⟩
  | @cons k0 v0 e0 es es' hk hv ht ih =>
    intro i r e
    simp only [findE] at e
    cases hke : keyEqE P t k k0 with
    | none => rw [hke] at e; cases e
    | some b =>
      rw [hke] at e
      unfold keyEqE at hke
      split at hke
      · rename_i hf
        simp only [Bool.and_eq_true] at hf
        have ek : e0.key = k0 := hk.flat_eq hf.2
        have hsn := sameNow_of hd hke
        have hrun := pureRun_run _ w hke
        cases b with
        | true =>
          simp only [Option.some.injEq] at e; subst e
          refine ⟨?_, ?_, fun j hj => by cases hj; exact ⟨Nat.le_refl _, by simp⟩⟩
          · simp only [Instr.findNow, ek]
            rcases hsn with hs | hs <;> rw [hs] <;> simp
          · simp [Instr.findAsking, ek, hrun]
        | false =>
          simp only at e
          obtain ⟨q1, q2, q3⟩ := ih e
          have hshift : ∀ j, r = some j → j - i = (j - (i + 1)) + 1 := by intro j hj; have := (q3 j hj).1; omega
          have hval : (r.bind fun j => (es'[j - (i + 1)]?).map fun e => (j, e.val)) = r.bind fun j => ((e0 :: es')[j - i]?).map fun e => (j, e.val) := by
            cases r with
            | none => rfl
            | some j => simp only [Option.bind_some]; rw [hshift j rfl]; simp
          refine ⟨?_, ?_, fun j hj => ⟨by have := (q3 j hj).1; omega, by have := (q3 j hj).2; have := (q3 j hj).1; simp; omega⟩⟩
          · simp only [Instr.findNow, ek]
            rcases hsn with hs | hs
            · rw [hs]; simp only; rw [hval] at q1; exact q1
            · rw [hs]; trivial
          · simp only [Instr.findAsking, ek, Sem.run_bind, hrun, Result.andThen_ok, Bool.false_eq_true, if_false]
            rw [q2, hval]
      · cases hke

theorem findKey_sound {P : Program} {μ : Mu} {t : TypeId} {d : TypeDesc} (hd : P.underlying t = some d) {k : Value} (w : World) {es : List (Value × Value)} {es' : List MapEntry} (h : ERelM μ es es') {r : Option Nat} (e : findE P t k es 0 = some r) :
    (Instr.findKey t k es').run P w = .ok (r.bind fun j => (es'[j]?).map fun e => (j, e.val)) w := by
  obtain ⟨q1, q2, _⟩ := findE_sound hd w h e
  simp only [Nat.sub_zero] at q1 q2
  simp only [Instr.findKey, Sem.run_bind, run_underlying_of hd, Result.andThen_ok]
  cases hn : Instr.findNow d k es' 0 with
  | some x => rw [hn] at q1; simp only at q1; rw [q1]; rfl
  | none => exact q2

def entriesE (h : Heap) (x : Value) : Option (List (Value × Value)) :=
  match x with
  | .map none => some []
  | .map (some r) => match h.get r with
    | some (.map es) => some es
    | _ => none
  | _ => none

def lookupE (P : Program) (t : TypeId) (x k : Value) (ok : Bool) (h : Heap) : Option Value :=
  match P.underlying t with
  | some (.map kt el) =>
    match entriesE h x with
    | some es =>
      if flat k then
        match pureRun P (Instr.checkKey es.isEmpty 10000 kt k), P.underlying kt, findE P kt k es 0 with
        | some _, some _, some r =>
          match r with
          | some i => match es[i]? with
            | some e => some (if ok then .tuple #[e.2, .bool true] else e.2)
            | none => none
          | none => match P.info? el with
            | some inf => match inf.zero with
              | some z => if flat z then some (if ok then .tuple #[z, .bool false] else z) else none
              | none => none
            | none => none
        | _, _, _ => none
      else none
    | none => none
  | _ => none

/-- The entries of a map, on both sides. -/
theorem entries_sound {P : Program} {μ : Mu} {h : Heap} {n : Nat} {w : World} (r : Rel P μ h n w) {x x' : Value} (hx : VRel μ x x') {es : List (Value × Value)} (e : entriesE h x = some es) :
    ∃ es' : Array MapEntry, ERelM μ es es'.toList ∧ ((x' = .map none ∧ es' = #[]) ∨ (∃ b clock, x' = .map (some b) ∧ w.heap[b]? = some (.map es' clock))) := by
  unfold entriesE at e
  split at e
  · cases e; cases hx; exact ⟨#[], .nil, .inl ⟨rfl, rfl⟩⟩
  · rename_i b
    cases hx with
    | map hm =>
      rename_i m
      split at e
      · rename_i es0 hb
        cases e
        obtain ⟨m1, x1, f1, f2, f3⟩ := r.obj b _ hb
        rw [hm] at f1; cases f1
        cases x1 with
        | map es' clock =>
          obtain ⟨_, g2, g3, _⟩ := f3
          exact ⟨es', ERelM.of_get (by simpa using g2) (fun i e he => by simpa using g3 i e he), .inr ⟨_, clock, rfl, f2⟩⟩
        | _ => exact f3.elim
      · cases e
  · cases e

theorem lookupE_sound {P : Program} {μ : Mu} {h : Heap} {n : Nat} {w : World} (r : Rel P μ h n w) {t : TypeId} {x x' k k' v : Value} {ok : Bool} (hx : VRel μ x x') (hk : VRel μ k k') (e : lookupE P t x k ok h = some v) :
    ∃ v', (Instr.lookup t x' k' ok).run P w = .ok v' w ∧ VRel μ v v' := by
  unfold lookupE at e
  split at e
  · rename_i kt el hu
    split at e
    · rename_i es hes
      obtain ⟨es', he, hrun⟩ := entries_sound r hx hes
      split at e
      · rename_i hf
        rw [hk.flat_eq hf]
        split at e
        · rename_i u d rr hck hkt hfd
          have hfind := findKey_sound (P := P) hkt w he hfd
          have hemp : es'.isEmpty = es.isEmpty := by
            have := he.length
            cases es with
            | nil => simp at this; simp [this]
            | cons => simp at this; simp only [List.isEmpty_cons]; rw [Array.isEmpty_eq_false_iff]; intro h0; simp [h0] at this
          have hchk := pureRun_run _ w hck
          have run_get : ∀ {b : Nat} {clock : Nat}, w.heap[b]? = some (.map es' clock) → (getObj b).run P w = .ok (.map es' clock) w := by
            intro b clock hb; simp [getObj, Sem.run, hb]
          split at e
          · rename_i i
            split at e
            · rename_i en hen
              cases e
              obtain ⟨e', q1, q2, q3⟩ := he.get hen
              have hq : (Instr.lookup t x' k ok).run P w = .ok (if ok then .tuple #[e'.val, .bool true] else e'.val) w := by
                rw [Option.bind_some, q1, Option.map_some] at hfind
                rw [← hemp] at hchk
                rcases hrun with ⟨rfl, rfl⟩ | ⟨b, clock, rfl, hb⟩
                · simp only [Instr.lookup, Sem.run_bind, run_underlying_of hu, Result.andThen_ok, Sem.run_pure, hchk, hfind]
                · simp only [Instr.lookup, Sem.run_bind, run_underlying_of hu, Result.andThen_ok, Sem.run_pure, run_get hb, hchk, hfind]
              refine ⟨_, hq, ?_⟩
              cases ok with
              | true => exact pair_rel q3 (.bool true)
              | false => exact q3
            · cases e
          · split at e
            · rename_i inf hi
              split at e
              · rename_i z hz
                split at e
                · rename_i hfz
                  cases e
                  have hq : (Instr.lookup t x' k ok).run P w = .ok (if ok then .tuple #[z, .bool false] else z) w := by
                    rw [Option.bind_none] at hfind
                    rw [← hemp] at hchk
                    rcases hrun with ⟨rfl, rfl⟩ | ⟨b, clock, rfl, hb⟩
                    · simp only [Instr.lookup, Sem.run_bind, run_underlying_of hu, Result.andThen_ok, Sem.run_pure, hchk, hfind, run_zeroValue_of hi hz]
                    · simp only [Instr.lookup, Sem.run_bind, run_underlying_of hu, Result.andThen_ok, Sem.run_pure, run_get hb, hchk, hfind, run_zeroValue_of hi hz]
                  refine ⟨_, hq, ?_⟩
                  cases ok with
                  | true => exact pair_rel (.flat_self hfz) (.bool false)
                  | false => exact .flat_self hfz
                · cases e
              · cases e
            · cases e
        · cases e
      · cases e
    · cases e
  · cases e
/-- The length of a map. -/
def mapLenE (P : Program) (ts : List TypeId) (args : List Value) (h : Heap) : Option Value :=
  match ts, args with
  | t :: _, [x] => match P.underlying t, entriesE h x with
    | some (.map _ _), some es => some (.int .i64 es.length)
    | _, _ => none
  | _, _ => none

theorem mapLenE_sound {P : Program} {μ : Mu} {h : Heap} {n : Nat} {w : World} (r : Rel P μ h n w) {ts : Array TypeId} {args args' : List Value} {v : Value} (ha : LRel μ args args') (e : mapLenE P ts.toList args h = some v) (ty : TypeId) :
    (Builtin.len_ ts ty args'.toArray).run P w = .ok v w ∧ VRel μ v v := by
  unfold mapLenE at e
  split at e
  · rename_i t rest x hts
    cases ha with
    | cons hx ht =>
      cases ht
      have h0 : ts[0]? = some t := by rw [← Array.getElem?_toList, hts]; rfl
      split at e
      · rename_i kt el es hu hes
        cases e
        obtain ⟨es', he, hrun⟩ := entries_sound r hx hes
        have hl := he.length
        refine ⟨?_, .int _ _⟩
        rcases hrun with ⟨rfl, rfl⟩ | ⟨b, clock, rfl, hb⟩
        · simp at hl
          simp [Builtin.len_, h0, run_underlying_of hu, goInt, ← hl]
        · have hg : (getObj b).run P w = .ok (.map es' clock) w := by simp [getObj, Sem.run, hb]
          simp only [Array.length_toList] at hl
          simp [Builtin.len_, h0, run_underlying_of hu, goInt, hg, hl]
      · cases e
  · cases e

/-! All calm operations. -/
def calmE (P : Program) (o : Oper) (ρ : Operand → Value) (h : Heap) : Option Value :=
  match o.op with
  | .load t a => loadE P t (ρ a) h
  | .slice t x lo hi mx => sliceE P t (ρ x) (lo.map ρ) (hi.map ρ) (mx.map ρ) h
  | .lookup t x k ok => lookupE P t (ρ x) (ρ k) ok h
  | .convert s d x => match convE P s d (ρ x) with
    | some v => some v
    | none => strOfE P s d (ρ x) h
  | .call c => match c.callee with
    | .builtin b => match builtinE P b c.argTypes (c.args.toList.map ρ) with
      | some v => some v
      | none => match b with
        | .len => mapLenE P c.argTypes.toList (c.args.toList.map ρ) h
        | _ => none
    | _ => none
  | _ => pureE P o ρ

theorem ORelV_map {μ : Mu} {ρ ρ' : Operand → Value} (x : Option Operand) (h : ∀ y, x = Option.some y → VRel μ (ρ y) (ρ' y)) : ORelV μ (x.map ρ) (x.map ρ') := by
  cases x with
  | none => exact .none
  | some y => exact .some (h y rfl)

theorem calmE_sound {P : Program} {o : Oper} {ρ : Operand → Value} {h : Heap} {v : Value} (e : calmE P o ρ h = some v) : CalmVal P o ρ h v := by
  intro μ ρ' n w hρ hr
  obtain ⟨dst, op, ty, pos, after, guard⟩ := o
  cases op
  case load t a =>
    obtain ⟨v', q1, q2⟩ := loadE_sound hr (hρ a (by simp [Op.operands])) e
    exact ⟨v', by simp [execOp, q1], q2⟩
  case slice t x lo hi mx =>
    obtain ⟨v', q1, q2⟩ := sliceE_sound hr (hρ x (by simp [Op.operands])) (ORelV_map lo fun y hy => hρ y (by subst hy; simp [Op.operands]))
      (ORelV_map hi fun y hy => hρ y (by subst hy; simp [Op.operands])) (ORelV_map mx fun y hy => hρ y (by subst hy; simp [Op.operands])) e
    exact ⟨v', by simp [execOp, q1], q2⟩
  case lookup t x k ok =>
    obtain ⟨v', q1, q2⟩ := lookupE_sound hr (hρ x (by simp [Op.operands])) (hρ k (by simp [Op.operands])) e
    exact ⟨v', by simp [execOp, q1], q2⟩
  case convert s d x =>
    simp only [calmE] at e
    split at e
    · rename_i v0 e0
      cases e
      obtain ⟨q1, q2⟩ := convE_sound (hρ x (by simp [Op.operands])) e0 w
      exact ⟨_, by simp [execOp, q1], q2⟩
    · obtain ⟨q1, q2⟩ := strOfE_sound hr (hρ x (by simp [Op.operands])) e
      exact ⟨_, by simp [execOp, q1], q2⟩
  case call c =>
    simp only [calmE] at e
    split at e
    · rename_i b hb
      split at e
      · rename_i v0 e0
        cases e
        exact pureE_sound (o := ⟨dst, .call c, ty, pos, after, guard⟩) hρ (by simp only [pureE, hb]; exact e0) w
      · split at e
        · have ha := LRel.of_map c.args.toList (fun x hx => hρ x (by simp [Op.operands, Call.operands, hb]; simpa using hx))
          obtain ⟨q1, q2⟩ := mapLenE_sound hr ha e ty
          refine ⟨v, ?_, q2⟩
          have e1 : c.args.map ρ' = (c.args.toList.map ρ').toArray := by apply Array.ext'; simp
          simp only [execOp, resolve, hb, Sem.run_bind, Sem.run_pure, Result.andThen_ok, invoke, e1, builtin, q1]
        · cases e
    · cases e
  all_goals exact pureE_sound hρ e w

/-- 0: it acts; 1: it reads no memory; 2: it reads alone. -/
def kindOf (P : Program) (o : Oper) : Nat :=
  match o.op with
  | .load _ _ | .lookup .. => 2
  | .slice t .. => match P.underlying t with
    | some (.slice _) => 2
    | _ => 1
  | .convert s d _ => match P.underlying s, P.underlying d with
    | some (.slice _), _ => 2
    | some .string, some (.slice _) => 0
    | _, _ => 1
  | .call c => match c.callee with
    | .builtin b => match b with
      | .len => match c.argTypes.toList with
        | t :: _ => match P.underlying t with
          | some (.map _ _) => 2
          | _ => 1
        | [] => 0
      | .cap | .min | .max => 1
      | _ => 0
    | _ => 0
  | .move _ | .assign _ | .pick .. | .build .. | .nilCheck _ | .binOp .. | .unOp .. | .makeInterface .. | .makeFunc .. | .fieldAddr .. | .field .. | .indexAddr .. | .index .. | .typeAssert .. | .extract .. => 1
  | _ => 0
end Go.Abs
