/- Appends, copies, bytes of a string. -/
import Derived.Test.YtkpjfibpaojelaaGreatDoorAbs14
namespace Go.Abs
open Go

/-- The cells of what is appended: a slice's, or a string's bytes; and how many elements. -/
def srcE (h : Heap) (size : Nat) (x : Value) : Option (List Value × Nat) :=
  match x with
  | .slice none 0 0 => some ([], 0)
  | .slice (some ⟨b, o, none⟩) len _ => match rowE h b o (len * size) with
    | some xs => some (xs, len)
    | none => none
  | .string s => if size = 1 then some (s.data.toList.map fun b => .int .u8 b.toNat, s.data.toList.length) else none
  | _ => none

theorem srcE_sound {P : Program} {μ : Mu} {h : Heap} {n : Nat} {w : World} (r : Rel P μ h n w) {size : Nat} {x x' : Value} (hx : VRel μ x x') {xs : List Value} {len : Nat} (e : srcE h size x = some (xs, len)) :
    ∃ xs' : List Value, LRel μ xs xs' ∧ xs'.length = len * size ∧ (∀ d, (Builtin.lenOf x').run P { w with drawn := d } = .ok len { w with drawn := d }) ∧ ∀ d, (Builtin.firstCells size len x').run P { w with drawn := d } = .ok xs'.toArray { w with drawn := d } := by
  unfold srcE at e
  split at e
  · cases e
    cases hx
    exact ⟨[], .nil, by simp, fun _ => rfl, fun _ => rfl⟩
  · rename_i b o len0 cap
    cases hx with
    | slice _ _ _ cap' hm hc =>
      split at e
      · rename_i ys hy
        cases e
        obtain ⟨m, xs', f1, f2, f3, f4, f5⟩ := rowE_sound r hy
        rw [hm] at f1; cases f1
        refine ⟨xs', f5.list, f2, fun _ => rfl, fun d => ?_⟩
        simp only [Builtin.firstCells]
        rw [← f2]
        exact run_loadCells xs' f4
      · cases e
  · rename_i s
    cases hx
    split at e
    · rename_i hs
      cases e
      refine ⟨s.data.toList.map fun b => .int .u8 b.toNat, LRel.flat (by rw [List.all_eq_true]; intro y hy; simp at hy; obtain ⟨b, _, rfl⟩ := hy; rfl), by simp [hs], fun d => by simp [Builtin.lenOf], fun d => ?_⟩
      simp only [Builtin.firstCells, Sem.run_pure]
      congr 1
      apply Array.ext'
      simp
    · cases e
  · cases e

theorem growBy_le (need : Nat) : ∀ (k c : Nat), c ≤ need → Builtin.growBy need k c ≤ 2 * need + 768 := by
  intro k
  induction k with
  | zero => intro c h; simp [Builtin.growBy]; omega
  | succ k ih =>
    intro c h
    simp only [Builtin.growBy]
    split
    · omega
    · by_cases h2 : c + (c + 768) / 4 ≤ need
      · exact ih _ h2
      · have : Builtin.growBy need k (c + (c + 768) / 4) = c + (c + 768) / 4 := by
          cases k with
          | zero => rfl
          | succ k => simp only [Builtin.growBy]; rw [if_pos (by omega)]
        rw [this]; omega

theorem nextcap_le {need old : Nat} (h : old < need) : Builtin.nextslicecap need old ≤ 2 * need + 768 := by
  unfold Builtin.nextslicecap
  split
  · omega
  · split
    · omega
    · exact growBy_le need 4 old (by omega)

/-- The parts of 'append' of rows, where the second one is no number. -/
def appendE (P : Program) (ts : List TypeId) (args : List Value) (h : Heap) (n : Nat) : Option (ARes × Heap × Nat) :=
  match ts, args with
  | st :: rest, [s, x] =>
    match P.underlying st, (match rest with
      | [] => true
      | xt :: _ => match P.underlying xt with
        | some (.int _) => false
        | some _ => true
        | none => false) with
    | some (.slice elem), true =>
      match P.info? elem, zeroOf P elem with
      | some i, some z =>
        if z.cells.toList.length = i.size ∧ 0 < i.size then
        match srcE h i.size x with
        | some (xs, m) =>
          if xs.all (fun v => v.oneCell') then
          match s with
          | .slice none 0 0 =>
            if m = 0 then some (.val s, h, n)
            else if (2 * m + 768) * i.bytes ≤ 2 ^ 48 ∧ m < 2 ^ 62 then
              some (.val (.slice (some ⟨n, 0, none⟩) m U), h.set n (.cells xs true ⟨elem, i.size, false⟩), n + 1)
            else none
          | .slice (some ⟨b, o, none⟩) len cap =>
            if m = 0 then (if len ≤ cap then some (.val s, h, n) else none)
            else if (2 * (len + m) + 768) * i.bytes ≤ 2 ^ 48 ∧ len + m < 2 ^ 62 then
              if cap = U then
                match h.get b with
                | some (.cells cs true ci) =>
                  if ci.k = i.size ∧ o + len * i.size = cs.length ∧ ci.e = elem then
                    some (.val (.slice (some ⟨n, 0, none⟩) (len + m) U), (h.del b).set n (.cells (cs.drop o ++ xs) true ⟨elem, i.size, false⟩), n + 1)
                  else none
                | _ => none
              else if len + m ≤ cap then
                match h.get b with
                | some (.cells cs true ci) =>
                  if o + (len + m) * i.size ≤ cs.length then
                    some (.val (.slice (some ⟨b, o, none⟩) (len + m) cap), h.set b (.cells (setAll cs (o + len * i.size) xs) true ci), n)
                  else none
                | _ => none
              else if len ≤ cap then
                match rowE h b o (len * i.size) with
                | some old => some (.val (.slice (some ⟨n, 0, none⟩) (len + m) U), h.set n (.cells (old ++ xs) true ⟨elem, i.size, false⟩), n + 1)
                | none => none
              else none
            else none
          | _ => none
          else none
        | none => none
        else none
      | _, _ => none
    | _, _ => none
  | _, _ => none

/-- The run of a growing append. -/
theorem run_append_grow {P : Program} {w : World} {ts : Array TypeId} {ty st elem : TypeId} {i : TypeInfo} {z : Value} {base : Option Addr} {len cap : Nat} {x' : Value} {m : Nat} {old xs' : List Value}
    (h0 : ts[0]? = some st) (hu : P.underlying st = some (.slice elem)) (hi : P.info? elem = some i)
    (hzeros : ts[1]? = none ∨ ∃ xt d, ts[1]? = some xt ∧ P.underlying xt = some d ∧ ∀ k, d ≠ .int k)
    (hl : (Builtin.lenOf x').run P w = .ok m w) (hgrow : cap < len + m)
    (hb : (2 * (len + m) + 768) * i.bytes ≤ 2 ^ 48) (hm2 : len + m < 2 ^ 62)
    (hold : ∀ d, (Builtin.firstCells i.size len (.slice base len cap)).run P { w with drawn := d } = .ok old.toArray { w with drawn := d })
    (hnew : ∀ d, (Builtin.firstCells i.size m x').run P { w with drawn := d } = .ok xs'.toArray { w with drawn := d })
    (hzd : ∀ d, (zeroValue elem).run P { w with drawn := d } = .ok z { w with drawn := d }) :
    ∃ newCap, len + m ≤ newCap ∧ (Builtin.append_ ts ty #[.slice base len cap, x']).run P w =
      .ok (.slice (some ⟨w.heap.size, 0, none⟩) (len + m) newCap) { w with drawn := w.drawn + 1, heap := w.heap.push (.cells (old ++ xs' ++ zerosE z.cells.toList (newCap - (len + m))).toArray elem (0, 0)) } := by
  refine ⟨(Question.appendCap (len + m) cap elem).cut (w.tape w.drawn (.appendCap (len + m) cap elem)), Nat.le_add_right _ _, ?_⟩
  have hnc : ¬ (Builtin.nextslicecap (len + m) cap * i.bytes > 2 ^ 48) := by
    have := Nat.mul_le_mul_right i.bytes (nextcap_le hgrow)
    omega
  have hint : ¬ (((len + m : Nat) : Int) > IntKind.i64.max) := by
    have : IntKind.i64.max = 9223372036854775807 := rfl
    rw [this]; omega
  have hnle : ¬ (len + m ≤ cap) := by omega
  have hzc : ∀ k, Builtin.zeroCells z.cells k = (zerosE z.cells.toList k).toArray := by
    intro k; exact zeros_model z.cells k
  rcases hzeros with h1 | ⟨xt, d, h1, hd, hni⟩
  · simp only [Builtin.append_, h0, h1, List.getElem?_toArray, List.getElem?_cons_zero, List.getElem?_cons_succ, Sem.run_bind, run_underlying_of hu, Result.andThen_ok, run_sizeOf_of hi, Sem.run_pure, Bool.false_eq_true, if_false, hl, hnle, run_typeInfo_of hi]
    rw [if_neg (by rintro ⟨h, _⟩; exact hint h)]
    simp only [Sem.run_bind, run_typeInfo_of hi, Result.andThen_ok]
    rw [if_neg hnc]
    simp only [run_choose, Question.forced, Bool.false_eq_true, if_false, Result.andThen_ok, run_askRoom, Bool.not_false, if_true, Sem.run_bind, run_typeInfo_of hi]
    rw [hold]
    simp only [Result.andThen_ok]
    rw [hnew]
    simp only [Result.andThen_ok]
    rw [hzd]
    simp only [Result.andThen_ok, newRow, hzc, Sem.run_pure]
    simp
    exact ⟨rfl, rfl, rfl⟩
  · cases d <;> first
      | exact (hni _ rfl).elim
      | (simp only [Builtin.append_, h0, h1, List.getElem?_toArray, List.getElem?_cons_zero, List.getElem?_cons_succ, Sem.run_bind, run_underlying_of hu, run_underlying_of hd, Result.andThen_ok, run_sizeOf_of hi, Sem.run_pure, Bool.false_eq_true, if_false, hl, hnle, run_typeInfo_of hi]
         rw [if_neg (by rintro ⟨h, _⟩; exact hint h)]
         simp only [Sem.run_bind, run_typeInfo_of hi, Result.andThen_ok]
         rw [if_neg hnc]
         simp only [run_choose, Question.forced, Bool.false_eq_true, if_false, Result.andThen_ok, run_askRoom, Bool.not_false, if_true, Sem.run_bind, run_typeInfo_of hi]
         rw [hold]
         simp only [Result.andThen_ok]
         rw [hnew]
         simp only [Result.andThen_ok]
         rw [hzd]
         simp only [Result.andThen_ok, newRow, hzc, Sem.run_pure]
         simp
         exact ⟨rfl, rfl, rfl⟩)

/-- The run of an append within the capacity. -/
theorem run_append_place {P : Program} {w w' : World} {ts : Array TypeId} {ty st elem : TypeId} {i : TypeInfo} {a : Addr} {len cap : Nat} {x' : Value} {m : Nat} {xs' : List Value}
    (h0 : ts[0]? = some st) (hu : P.underlying st = some (.slice elem)) (hi : P.info? elem = some i)
    (hzeros : ts[1]? = none ∨ ∃ xt d, ts[1]? = some xt ∧ P.underlying xt = some d ∧ ∀ k, d ≠ .int k)
    (hl : (Builtin.lenOf x').run P w = .ok m w) (hle : len + m ≤ cap)
    (hnew : (Builtin.firstCells i.size m x').run P w = .ok xs'.toArray w)
    (hst : (storeCells (a.add (len * i.size)) xs').run P w = .ok () w') :
    (Builtin.append_ ts ty #[.slice (some a) len cap, x']).run P w = .ok (.slice (some a) (len + m) cap) w' := by
  rcases hzeros with h1 | ⟨xt, d, h1, hd, hni⟩
  · simp only [Builtin.append_, h0, h1, List.getElem?_toArray, List.getElem?_cons_zero, List.getElem?_cons_succ, Sem.run_bind, run_underlying_of hu, Result.andThen_ok, run_sizeOf_of hi, Sem.run_pure, Bool.false_eq_true, if_false, hl, hle, if_true, Bool.not_false]
    rw [hnew]
    simp only [Result.andThen_ok]
    rw [hst]
    rfl
  · cases d <;> first
      | exact (hni _ rfl).elim
      | (simp only [Builtin.append_, h0, h1, List.getElem?_toArray, List.getElem?_cons_zero, List.getElem?_cons_succ, Sem.run_bind, run_underlying_of hu, run_underlying_of hd, Result.andThen_ok, run_sizeOf_of hi, Sem.run_pure, Bool.false_eq_true, if_false, hl, hle, if_true, Bool.not_false]
         rw [hnew]
         simp only [Result.andThen_ok]
         rw [hst]
         rfl)

/-- The run of an append of nothing. -/
theorem run_append_none {P : Program} {w : World} {ts : Array TypeId} {ty st elem : TypeId} {i : TypeInfo} {base : Option Addr} {len cap : Nat} {x' : Value}
    (h0 : ts[0]? = some st) (hu : P.underlying st = some (.slice elem)) (hi : P.info? elem = some i)
    (hzeros : ts[1]? = none ∨ ∃ xt d, ts[1]? = some xt ∧ P.underlying xt = some d ∧ ∀ k, d ≠ .int k)
    (hl : (Builtin.lenOf x').run P w = .ok 0 w) (hle : len ≤ cap)
    (hnew : (Builtin.firstCells i.size 0 x').run P w = .ok #[] w) :
    (Builtin.append_ ts ty #[.slice base len cap, x']).run P w = .ok (.slice base len cap) w := by
  have hle' : len + 0 ≤ cap := hle
  rcases hzeros with h1 | ⟨xt, d, h1, hd, hni⟩
  · simp only [Builtin.append_, h0, h1, List.getElem?_toArray, List.getElem?_cons_zero, List.getElem?_cons_succ, Sem.run_bind, run_underlying_of hu, Result.andThen_ok, run_sizeOf_of hi, Sem.run_pure, Bool.false_eq_true, if_false, hl, hle', if_true, Bool.not_false]
    rw [hnew]
    simp only [Result.andThen_ok]
    cases base <;> rfl
  · cases d <;> first
      | exact (hni _ rfl).elim
      | (simp only [Builtin.append_, h0, h1, List.getElem?_toArray, List.getElem?_cons_zero, List.getElem?_cons_succ, Sem.run_bind, run_underlying_of hu, run_underlying_of hd, Result.andThen_ok, run_sizeOf_of hi, Sem.run_pure, Bool.false_eq_true, if_false, hl, hle', if_true, Bool.not_false]
         rw [hnew]
         simp only [Result.andThen_ok]
         cases base <;> rfl)
end Go.Abs
