/- All operations that act; the rule for one. -/
import Derived.Test.YtkpjfibpaojelaaGreatDoorAbs17c
namespace Go.Abs
open Go

def rangeE (P : Program) (t : TypeId) (x : Value) (h : Heap) (n : Nat) : Option (ARes × Heap × Nat) :=
  match P.underlying t, x with
  | some .string, .string s => some (.val (.pointer (some ⟨n, 0, none⟩)), h.set n (.siter s 0), n + 1)
  | _, _ => none

theorem rangeE_sound {P : Program} {μ : Mu} {h : Heap} {n : Nat} {w : World} (r : Rel P μ h n w) {t : TypeId} {x x' : Value} (hx : VRel μ x x') {y : ARes × Heap × Nat} (e : rangeE P t x h n = some y) :
    ARun P (do pure (.value (← Instr.range t x'))) μ h n w y := by
  unfold rangeE at e
  split at e
  · rename_i s hu
    cases e
    cases hx
    obtain ⟨g1, g2⟩ := r.push (.siter s 0) (.stringIter s 0) ⟨w.heap.size, 0, 0, 0⟩ rfl r.globs ⟨rfl, rfl, rfl⟩
    refine ⟨_, _, ?_, g1, g2, Nat.le_succ _⟩
    have hrun : (do pure (.value (← Instr.range t (.string s))) : Sem Next).run P w = .ok (.value (.pointer (some ⟨w.heap.size, 0, none⟩))) { w with heap := w.heap.push (.stringIter s 0) } := by
      simp [Instr.range, run_underlying_of hu]
    rw [hrun]
    exact .val (.new (m := ⟨w.heap.size, 0, 0, 0⟩) rfl 0)
  · cases e

def nextE (it : Value) (isString : Bool) (h : Heap) (n : Nat) : Option (ARes × Heap × Nat) :=
  match it, isString with
  | .pointer (some ⟨b, 0, none⟩), true => match h.get b with
    | some (.siter s pos) =>
      match nextStrE s pos with
      | some (v, pos') => some (.val v, h.set b (.siter s pos'), n)
      | none => some (.val (.tuple #[.bool false]), h, n)
    | _ => none
  | _, _ => none

theorem nextE_sound {P : Program} {μ : Mu} {h : Heap} {n : Nat} {w : World} (r : Rel P μ h n w) {t : TypeId} {x x' : Value} {b : Bool} (hx : VRel μ x x') {y : ARes × Heap × Nat} (e : nextE x b h n = some y) :
    ARun P (do pure (.value (← Instr.next x' b t))) μ h n w y := by
  unfold nextE at e
  split at e
  · rename_i b
    cases hx with
    | ptr o hm =>
      rename_i m
      split at e
      · rename_i s pos hb
        obtain ⟨m1, x1, f1, f2, f3⟩ := r.obj b _ hb
        rw [hm] at f1; cases f1
        cases x1 with
        | stringIter s' pos' =>
          obtain ⟨g0, rfl, rfl⟩ := f3
          have hget : (getObj m.blk).run P w = .ok (.stringIter s pos) w := by simp [getObj, Sem.run, f2]
          split at e
          · rename_i v pos' hn
            cases e
            unfold nextStrE at hn
            split at hn
            · rename_i hlt
              cases hn
              have hlt' : pos < s.size := by simpa using hlt
              have hset : (setObj m.blk (.stringIter s (pos + (Utf8.decode s pos).2))).run P w = .ok () { w with heap := w.heap.setIfInBounds m.blk (.stringIter s (pos + (Utf8.decode s pos).2)) } := by simp [setObj, Sem.run, f2]
              have hturn := r.turn (o' := .siter s (pos + (Utf8.decode s pos).2)) (.stringIter s (pos + (Utf8.decode s pos).2)) hb rfl hm ⟨g0, rfl, rfl⟩
                (w' := { w with heap := w.heap.setIfInBounds m.blk (.stringIter s (pos + (Utf8.decode s pos).2)) }) rfl rfl rfl rfl
              refine ⟨μ, _, ?_, hturn.1, hturn.2, Nat.le_refl _⟩
              have hrun : (do pure (.value (← Instr.next (.pointer (some ⟨m.blk, m.off + 0, none⟩)) true t)) : Sem Next).run P w = .ok (.value (.tuple #[.bool true, goInt pos, .int .i32 (Utf8.decode s pos).1])) { w with heap := w.heap.setIfInBounds m.blk (.stringIter s (pos + (Utf8.decode s pos).2)) } := by
                simp only [Instr.next, g0, Nat.zero_add, Sem.run_bind, hget, Result.andThen_ok, hlt', if_true]
                rw [hset]
                rfl
              rw [hrun]
              exact .val (LRel.arr (.cons (.bool true) (.cons (.int _ _) (.cons (.int _ _) .nil)))).tuple
            · cases hn
          · rename_i hn
            cases e
            unfold nextStrE at hn
            split at hn
            · cases hn
            · rename_i hlt
              have hlt' : ¬ pos < s.size := by simpa using hlt
              refine ⟨μ, w, ?_, r, .refl _ _ _, Nat.le_refl _⟩
              have hrun : (do pure (.value (← Instr.next (.pointer (some ⟨m.blk, m.off + 0, none⟩)) true t)) : Sem Next).run P w = .ok (.value (.tuple #[.bool false])) w := by
                simp only [Instr.next, g0, Nat.zero_add, Sem.run_bind, hget, Result.andThen_ok, hlt', if_false]
                rfl
              rw [hrun]
              exact .val (LRel.arr (.cons (.bool false) .nil)).tuple
        | _ => exact f3.elim
      · cases e
  · cases e

def actE (P : Program) (o : Oper) (ρ : Operand → Value) (h : Heap) (n : Nat) : Option (ARes × Heap × Nat) :=
  match o.op with
  | .alloc t => allocE P t h n
  | .box t x => some (boxE t (ρ x) h n)
  | .buildSlice t len ps => buildSliceE P t len (ps.toList.map fun p => (p.1, ρ p.2)) h n
  | .makeSlice t l c => makeSliceE P t (ρ l) (ρ c) h n
  | .makeMap t r => makeMapE P t (r.map ρ) h n
  | .store t a x => storeOpE P t (ρ a) (ρ x) h n
  | .mapUpdate t m k x => mapUpdateE P t (ρ m) (ρ k) (ρ x) h n
  | .insert t m k x => mapUpdateE P t (ρ m) (ρ k) (ρ x) h n
  | .convert s d x => match bytesOfE P s d (ρ x) h n with
    | some y => some y
    | none => match convPtrE P s d (ρ x) h with
      | some v => some (.val v, h, n)
      | none => none
  | .range t x => rangeE P t (ρ x) h n
  | .next it b => nextE (ρ it) b h n
  | .panic x => match ρ x with
    | .iface t v => some (.pan (.iface t v), h, n)
    | _ => none
  | .defer c => match c.callee with
    | .value f => match deferE (ρ f) (c.args.toList.map ρ) with
      | some d => some (.dfr d, h, n)
      | none => none
    | _ => none
  | .call c => match c.callee with
    | .value f => match calleeE P (ρ f) (c.args.toList.map ρ) with
      | some (k, as) => some (.ent k as, h, n)
      | none => externE P (ρ f) (c.args.toList.map ρ) h n
    | .builtin b => match b with
      | .append => appendE P c.argTypes.toList (c.args.toList.map ρ) h n
      | .copy => copyE P c.argTypes.toList (c.args.toList.map ρ) h n
      | .clear => clearE P c.argTypes.toList (c.args.toList.map ρ) h n
      | .unsafeSliceData => dataE (c.args.toList.map ρ) h n
      | .unsafeString => if c.argTypes.toList.length = 2 then bytesStrE P c.argTypes.toList (c.args.toList.map ρ) h n else none
      | _ => none
    | _ => none
  | _ => none

theorem map_arr (ρ : Operand → Value) (xs : Array Operand) : xs.map ρ = (xs.toList.map ρ).toArray := by apply Array.ext'; simp

theorem actE_sound {P : Program} (ok : POk P) {μ : Mu} {h : Heap} {n : Nat} {w : World} (r : Rel P μ h n w) {o : Oper} {ρ ρ' : Operand → Value} (hρ : ∀ x ∈ o.op.operands, VRel μ (ρ x) (ρ' x)) {y : ARes × Heap × Nat} (e : actE P o ρ h n = some y) :
    ARun P (execOp ρ' o) μ h n w y := by
  obtain ⟨dst, op, ty, pos, after, guard⟩ := o
  cases op <;> simp only [Op.operands] at hρ <;> simp only [actE] at e <;> (try (cases e; done))
  case alloc t => exact allocE_sound r e
  case box t x => cases e; exact boxE_sound r (hρ x (by simp))
  case buildSlice t len ps =>
    have hp := buildSliceE_sound r (PRel.of_map ps.toList (fun x hx => hρ x (by simpa using hx))) e
    have : (ps.map fun (i, x) => (i, ρ' x)) = (ps.toList.map fun p => (p.1, ρ' p.2)).toArray := by apply Array.ext'; simp
    simp only [execOp, this]
    exact hp
  case makeSlice t l c => exact makeSliceE_sound r (hρ l (by simp)) (hρ c (by simp)) e
  case makeMap t x => exact makeMapE_sound r (ORelV_map x fun y hy => hρ y (by subst hy; simp)) e
  case store t a x => exact storeOpE_sound r (hρ a (by simp)) (hρ x (by simp)) e
  case mapUpdate t m k x => exact mapUpdateE_sound r (hρ m (by simp)) (hρ k (by simp)) (hρ x (by simp)) e
  case insert t m k x => exact mapUpdateE_sound r (hρ m (by simp)) (hρ k (by simp)) (hρ x (by simp)) e
  case convert s d x =>
    split at e
    · rename_i y0 e0
      cases e
      exact bytesOfE_sound r (hρ x (by simp)) e0
    · split at e
      · rename_i v e0
        cases e
        obtain ⟨q1, q2⟩ := convPtrE_sound r (hρ x (by simp)) e0
        refine ⟨μ, w, ?_, r, .refl _ _ _, Nat.le_refl _⟩
        simp only [execOp, Sem.run_bind, q1, Result.andThen_ok, Sem.run_pure]
        exact .val q2
      · cases e
  case range t x => exact rangeE_sound r (hρ x (by simp)) e
  case next it b => exact nextE_sound r (hρ it (by simp)) e
  case panic x =>
    have hx := hρ x (by simp)
    split at e
    · rename_i t v hv
      rw [hv] at hx
      generalize hx' : ρ' x = z at hx
      cases hx with
      | iface _ hvv =>
        cases e
        refine ⟨μ, w, ?_, r, .refl _ _ _, Nat.le_refl _⟩
        simp only [execOp, hx', Instr.panic, Sem.run_bind, run_goPanic, Result.andThen_halt]
        exact .pan (.iface t hvv)
    · cases e
  case defer c =>
    split at e
    · rename_i f hf
      split at e
      · rename_i d hd
        cases e
        have ha := LRel.of_map c.args.toList (fun x hx => hρ x (by simp [Call.operands, hf]; right; simpa using hx))
        obtain ⟨d', q1, q2⟩ := deferE_sound (P := P) (hρ f (by simp [Call.operands, hf])) ha hd w
        refine ⟨μ, w, ?_, r, .refl _ _ _, Nat.le_refl _⟩
        simp only [execOp, resolve, hf, map_arr ρ', Sem.run_bind, q1, Result.andThen_ok, Sem.run_pure]
        exact .dfr q2
      · cases e
    · cases e
  case call c =>
    split at e
    · rename_i f hf
      split at e
      · rename_i k as hc
        cases e
        have ha := LRel.of_map c.args.toList (fun x hx => hρ x (by simp [Call.operands, hf]; right; simpa using hx))
        obtain ⟨as', q1, q2⟩ := calleeE_sound (P := P) ok (hρ f (by simp [Call.operands, hf])) ha hc w
        refine ⟨μ, w, ?_, r, .refl _ _ _, Nat.le_refl _⟩
        simp only [execOp, resolve, hf, map_arr ρ']
        rw [q1]
        exact .ent q2
      · have ha := LRel.of_map c.args.toList (fun x hx => hρ x (by simp [Call.operands, hf]; right; simpa using hx))
        obtain ⟨μ', w', q1, q2⟩ := externE_sound ok r (hρ f (by simp [Call.operands, hf])) ha e
        refine ⟨μ', w', ?_, q2⟩
        simp only [execOp, resolve, hf, map_arr ρ']
        exact q1
    · rename_i b hf
      have ha := LRel.of_map c.args.toList (fun x hx => hρ x (by simp [Call.operands, hf]; simpa using hx))
      split at e
      · have := appendE_sound r ha e ty
        simp only [execOp, resolve, hf, map_arr ρ']
        exact this
      · have := copyE_sound r ha e ty
        simp only [execOp, resolve, hf, map_arr ρ']
        exact this
      · have := clearE_sound r ha e ty
        simp only [execOp, resolve, hf, map_arr ρ']
        exact this
      · have := dataE_sound r c.argTypes ha e ty
        simp only [execOp, resolve, hf, map_arr ρ']
        exact this
      · split at e
        · rename_i hl
          have hts : ∃ pt it, c.argTypes = #[pt, it] := by
            generalize hz : c.argTypes.toList = l at hl
            match l, hz, hl with
            | [a, b], hz, _ => exact ⟨a, b, by apply Array.ext'; simpa using hz⟩
            | [], _, hl => simp at hl
            | [a], _, hl => simp at hl
            | a :: b :: c :: l, _, hl => simp at hl
          have := bytesStrE_sound r ha e ty hts
          simp only [execOp, resolve, hf, map_arr ρ']
          exact this
        · cases e
      · cases e
    · cases e
end Go.Abs
