import Derived.Test.YtkpjfibpaojelaaGreatDoorLab1
import Derived.Test.YtkpjfibpaojelaaGreatDoorAbs29
namespace Go.Proofs.YtkpjfibpaojelaaGreatDoor
open Go Go.Abs
set_option maxRecDepth 100000
set_option maxHeartbeats 1000000

abbrev Lab := ByteArray × ByteArray
def labCells (ls : List Lab) : List Value := ls.flatMap fun x => [.string x.1, .string x.2]

theorem labCells_get : ∀ (ls : List Lab) (i : Nat) (x : Lab), ls[i]? = some x → (labCells ls)[2 * i]? = some (.string x.1) ∧ (labCells ls)[2 * i + 1]? = some (.string x.2) := by
  intro ls
  induction ls with
  | nil => intro i x h; simp at h
  | cons y ls ih =>
    intro i x h
    have e : labCells (y :: ls) = .string y.1 :: .string y.2 :: labCells ls := rfl
    rw [e]
    cases i with
    | zero => simp at h; subst h; exact ⟨rfl, rfl⟩
    | succ i =>
      rw [show 2 * (i + 1) = 2 * i + 1 + 1 by omega]
      simp only [List.getElem?_cons_succ]
      exact ih i x (by simpa using h)

theorem labCells_length (ls : List Lab) : (labCells ls).length = 2 * ls.length := by
  induction ls with
  | nil => rfl
  | cons y ls ih => have e : labCells (y :: ls) = .string y.1 :: .string y.2 :: labCells ls := rfl; rw [e]; simp [ih]; omega

/-- A value is a slice that holds these labels. -/
inductive IsLab (h : Heap) : Value → List Lab → Prop
  | nil : IsLab h (.slice none 0 0) []
  | row {b o cap : Nat} {cs : List Value} {own : Bool} {ci : CI} {ls : List Lab} (hb : h.get b = some (.cells cs own ci)) (hc : (cs.drop o).take (2 * ls.length) = labCells ls) (hle : o + 2 * ls.length ≤ cs.length) : IsLab h (.slice (some ⟨b, o, none⟩) ls.length cap) ls

theorem IsLab.slice {h : Heap} {v : Value} {ls : List Lab} (q : IsLab h v ls) : ∃ a cap, v = .slice a ls.length cap := by
  cases q with
  | nil => exact ⟨_, _, rfl⟩
  | row => exact ⟨_, _, rfl⟩

theorem IsLab.at {h : Heap} {v : Value} {ls : List Lab} (q : IsLab h v ls) {i : Nat} {x : Lab} (hi : ls[i]? = some x) :
    ∃ b o cs own ci, indexAddrE Tryz.prog 22 v (.int .i64 i) = some (.pointer (some ⟨b, o, none⟩)) ∧ h.get b = some (.cells cs own ci) ∧ cs[o]? = some (.string x.1) ∧ cs[o + 1]? = some (.string x.2) := by
  have hlt := (List.getElem?_eq_some_iff.1 hi).1
  cases q with
  | nil => simp at hlt
  | row hb hc hle =>
    rename_i b o cap cs own ci
    obtain ⟨e1, e2⟩ := labCells_get ls i x hi
    rw [← hc, List.getElem?_take, if_pos (by omega), List.getElem?_drop] at e1 e2
    refine ⟨b, o + i * 2, cs, own, ci, ?_, hb, by rw [← e1]; congr 1; omega, by rw [← e2]; congr 1; omega⟩
    show (match Tryz.prog.info? 40 with | some inf => if 0 ≤ (i : Int) ∧ (i : Int) < ls.length then some (Value.pointer (some ⟨b, o + (i : Int).toNat * inf.size, none⟩)) else none | none => none) = _
    have hinf : (Tryz.prog.info? 40).map (·.size) = some 2 := by kernel_rfl
    cases h40 : Tryz.prog.info? 40 with
    | none => rw [h40] at hinf; cases hinf
    | some inf =>
      rw [h40] at hinf
      simp only [Option.map_some, Option.some.injEq] at hinf
      simp only [hinf, Int.toNat_natCast]
      rw [if_pos (by omega)]

theorem load9 {h : Heap} {b o : Nat} {cs : List Value} {own : Bool} {ci : CI} {v : Value} (hb : h.get b = some (.cells cs own ci)) (hc : cs[o]? = some v) : loadE Tryz.prog 9 (.pointer (some ⟨b, o, none⟩)) h = some v := by
  have e1 : isAggE Tryz.prog 9 = some false := by kernel_rfl
  have e2 : (Tryz.prog.info? 9).isSome = true := by kernel_rfl
  unfold loadE
  simp only [e1]
  cases e3 : Tryz.prog.info? 9 with
  | none => rw [e3] at e2; cases e2
  | some i => simp only [hb, hc]

def getS (ls : List Lab) (name : ByteArray) : ByteArray × Bool := match ls.find? (fun x => eqS x.1 name) with
  | some x => (x.2, true)
  | none => (⟨#[]⟩, false)

theorem ACall.fresh {P : Program} {f : FuncId} {args : Array Value} {h : Heap} {n : Nat} {Q : AEnd → Heap → Nat → Prop} (q : (∀ b, n ≤ b → h.get b = none) → ACall P f args h n Q) : ACall P f args h n Q :=
  fun μ a w ha hr => q (fun _ hb => hr.below hb) μ a w ha hr

theorem ACall.shrink {P : Program} {f : FuncId} {args : Array Value} {h : Heap} {n : Nat} {v : Value} (c : ACall P f args h n fun r h' _ => r = .ret v ∧ h.sub h') : ACall P f args h n fun r h' n' => r = .ret v ∧ h' = h ∧ n ≤ n' :=
  c.mono fun _ _ _ hn _ ⟨e, hs⟩ => ⟨h, hs, e, rfl, hn⟩

theorem ACall.ex {P : Program} {f : FuncId} {args : Array Value} {h : Heap} {n : Nat} {v : Value} (c : ACall P f args h n fun r h' n' => r = .ret v ∧ h' = h ∧ n ≤ n') : ACall P f args h n fun r h1 n1 => ∃ u, r = .ret u ∧ (u = v ∧ h1 = h ∧ n ≤ n1) :=
  c.mono fun _ h' _ _ _ ⟨e, e2, hn⟩ => ⟨h', Heap.sub_refl _, v, e, rfl, e2, hn⟩

theorem sub_set {h : Heap} {n : Nat} {o : AObj} (hn : h.get n = none) : h.sub (h.set n o) := by
  intro b x hb
  rw [Trie.get_set]
  split
  · rename_i e; subst e; rw [hn] at hb; cases hb
  · exact hb

theorem get_set_old {h : Heap} {n b : Nat} {o x : AObj} (hn : h.get n = none) (hb : h.get b = some x) : (h.set n o).get b = some x := sub_set hn _ _ hb

theorem rowE_two {h : Heap} {b o : Nat} {cs : List Value} {own : Bool} {ci : CI} {x y : Value} (hb : h.get b = some (.cells cs own ci)) (h0 : cs[o]? = some x) (h1 : cs[o + 1]? = some y) : rowE h b o 2 = some [x, y] := by
  obtain ⟨l1, e1⟩ := List.getElem?_eq_some_iff.1 h1
  have l0 : o < cs.length := by omega
  simp only [rowE, hb]
  rw [if_pos (by omega)]
  congr 1
  rw [List.drop_eq_getElem_cons l0, List.drop_eq_getElem_cons l1]
  have e0 := (List.getElem?_eq_some_iff.1 h0).2
  simp [e0, e1]

/-- baton/labels.Get$1 -/
theorem f50_spec {h : Heap} {n cb : Nat} {x : Lab} {name : ByteArray} {own : Bool} {ci : CI} (hc : h.get cb = some (.cells [.string name] own ci)) : ACall Tryz.prog 50 #[.agg #[.string x.1, .string x.2], .pointer (some ⟨cb, 0, none⟩)] h n fun r h' n' => r = .ret (.bool (eqS x.1 name)) ∧ h' = h ∧ n ≤ n' := by
  refine ACall.shrink (ACall.fresh fun hfr => ?_)
  refine ACall.of_bodyV (args := [.agg #[.string x.1, .string x.2], .pointer (some ⟨cb, 0, none⟩)]) Tryz.func50 rfl rfl ?_
  refine AWp.seq ?_
  refine AWp.seq_region (l := _) pok ?_
  refine seqV.act [_, _, _, _, _, _, _, _] (v := .pointer (some ⟨_, _, none⟩)) rfl rfl rfl rfl rfl ?_
  refine seqV.calm [_, _, _, _, _, _, _, _] (v := .bool _) rfl rfl rfl rfl ?_
  refine seqV.nil ?_
  refine AWp.seq ?_
  refine AWp.seq_region (l := _) pok ?_
  refine seqV.field [_, _, _, _, _, _, _, _] (off := 0) (by kernel_rfl) rfl rfl rfl ?_
  refine seqV.load [_, _, _, _, _, _, _, _] (by kernel_rfl) (by kernel_rfl) rfl rfl (Trie.get_set_same _ _ _) rfl rfl ?_
  refine seqV.load [_, _, _, _, _, _, _, _] (by kernel_rfl) (by kernel_rfl) rfl rfl (get_set_old (hfr _ (Nat.le_refl _)) hc) rfl rfl ?_
  refine seqV.calm [_, _, _, _, _, _, _, _] (v := .bool _) rfl rfl rfl rfl ?_
  refine seqV.calm [_, _, _, _, _, _, _, _] (v := .bool _) rfl rfl rfl rfl ?_
  refine seqV.nil ?_
  refine AWp.ret ?_
  exact ⟨rfl, _, rfl, rfl, sub_set (hfr _ (Nat.le_refl _))⟩

/-- baton/labels.Without$1 -/
theorem f53_spec {h : Heap} {n cb : Nat} {x : Lab} {name : ByteArray} {own : Bool} {ci : CI} (hc : h.get cb = some (.cells [.string name] own ci)) : ACall Tryz.prog 53 #[.agg #[.string x.1, .string x.2], .pointer (some ⟨cb, 0, none⟩)] h n fun r h' n' => r = .ret (.bool (eqS x.1 name)) ∧ h' = h ∧ n ≤ n' := by
  refine ACall.shrink (ACall.fresh fun hfr => ?_)
  refine ACall.of_bodyV (args := [.agg #[.string x.1, .string x.2], .pointer (some ⟨cb, 0, none⟩)]) Tryz.func53 rfl rfl ?_
  refine AWp.seq ?_
  refine AWp.seq_region (l := _) pok ?_
  refine seqV.act [_, _, _, _, _, _, _, _] (v := .pointer (some ⟨_, _, none⟩)) rfl rfl rfl rfl rfl ?_
  refine seqV.calm [_, _, _, _, _, _, _, _] (v := .bool _) rfl rfl rfl rfl ?_
  refine seqV.nil ?_
  refine AWp.seq ?_
  refine AWp.seq_region (l := _) pok ?_
  refine seqV.field [_, _, _, _, _, _, _, _] (off := 0) (by kernel_rfl) rfl rfl rfl ?_
  refine seqV.load [_, _, _, _, _, _, _, _] (by kernel_rfl) (by kernel_rfl) rfl rfl (Trie.get_set_same _ _ _) rfl rfl ?_
  refine seqV.load [_, _, _, _, _, _, _, _] (by kernel_rfl) (by kernel_rfl) rfl rfl (get_set_old (hfr _ (Nat.le_refl _)) hc) rfl rfl ?_
  refine seqV.calm [_, _, _, _, _, _, _, _] (v := .bool _) rfl rfl rfl rfl ?_
  refine seqV.calm [_, _, _, _, _, _, _, _] (v := .bool _) rfl rfl rfl rfl ?_
  refine seqV.nil ?_
  refine AWp.ret ?_
  exact ⟨rfl, _, rfl, rfl, sub_set (hfr _ (Nat.le_refl _))⟩

theorem f30_spec {h : Heap} {n : Nat} {l : Value} {ls : List Lab} {name : ByteArray} (hl : IsLab h l ls) (hlen : ls.length < 9223372036854775808) :
    ACall Tryz.prog 30 #[l, .string name] h n fun r h' n' => r = .ret (.tuple #[.string (getS ls name).1, .bool (getS ls name).2]) ∧ h' = h ∧ n' = n := by
  obtain ⟨a, cap, rfl⟩ := hl.slice
  refine ACall.of_bodyV (args := [.slice a ls.length cap, .string name]) Tryz.func30 rfl rfl ?_
  refine AWp.seq ?_
  refine AWp.seq_region (l := _) pok ?_
  refine seqV.calm [_, _, _, _, _, _, _, _, _, _, _, _, _, _, _, _, _, _, _, _, _, _, _, _, _] (v := .string _) rfl rfl rfl rfl ?_
  refine seqV.calm [_, _, _, _, _, _, _, _, _, _, _, _, _, _, _, _, _, _, _, _, _, _, _, _, _] (v := .bool _) rfl rfl rfl rfl ?_
  refine seqV.nil ?_
  refine AWp.seq ?_
  refine AWp.seq ?_
  refine AWp.seq_region (l := _) pok ?_
  refine seqV.calm [_, _, _, _, _, _, _, _, _, _, _, _, _, _, _, _, _, _, _, _, _, _, _, _, _] (v := .int _ _) rfl rfl rfl rfl ?_
  refine seqV.nil ?_
  refine AWp.block ?_
  refine AWp.loopV (fun d vs h' n' => h' = h ∧ n' = n ∧ ∃ i : Nat, d + i = ls.length + 1 ∧ (∀ j x, j < i → ls[j]? = some x → eqS x.1 name = false) ∧
    ∃ x2 x3 x7 x8 x9 x10 x11 x12 x13 x14 x15 x16 x17 x18 x19 x20 x21 x22 x23 x24,
      vs = [.slice a ls.length cap, .string name, x2, x3, .string ⟨#[]⟩, .bool false, .int .i64 i, x7, x8, x9, x10, x11, x12, x13, x14, x15, x16, x17, x18, x19, x20, x21, x22, x23, x24])
    (ls.length + 1) ⟨rfl, rfl, 0, rfl, (fun j x hj => by omega), _, _, _, _, _, _, _, _, _, _, _, _, _, _, _, _, _, _, _, _, rfl⟩ ?_
  rintro d vs h' n' ⟨rfl, rfl, i, hdi, hno, x2, x3, x7, x8, x9, x10, x11, x12, x13, x14, x15, x16, x17, x18, x19, x20, x21, x22, x23, x24, rfl⟩
  refine AWp.seq ?_
  refine AWp.seq ?_
  refine AWp.seq_region (l := _) pok ?_
  refine seqV.calm [_, _, _, _, _, _, _, _, _, _, _, _, _, _, _, _, _, _, _, _, _, _, _, _, _] (v := .int _ _) rfl rfl rfl rfl ?_
  refine seqV.calm [_, _, _, _, _, _, _, _, _, _, _, _, _, _, _, _, _, _, _, _, _, _, _, _, _] (v := .slice _ _ _) rfl rfl rfl rfl ?_
  refine seqV.calm [_, _, _, _, _, _, _, _, _, _, _, _, _, _, _, _, _, _, _, _, _, _, _, _, _] (v := .int _ _) rfl rfl rfl rfl ?_
  refine seqV.calm [_, _, _, _, _, _, _, _, _, _, _, _, _, _, _, _, _, _, _, _, _, _, _, _, _] (v := .bool _) rfl rfl rfl rfl ?_
  refine seqV.nil ?_
  refine AWp.testV rfl rfl ?_ ?_
  · intro hlt
    have hlt : (i : Int) < ls.length := by simpa using hlt
    refine AWp.skip ?_
    refine AWp.seq ?_
    refine AWp.block ?_
    refine AWp.seq ?_
    refine AWp.seq_region (l := _) pok ?_
    obtain ⟨x, hx⟩ : ∃ x, ls[i]? = some x := ⟨ls[i]'(by omega), List.getElem?_eq_getElem _⟩
    obtain ⟨b, o, cs, own, ci, q1, q2, q3, q4⟩ := hl.at hx
    refine seqV.calm [_, _, _, _, _, _, _, _, _, _, _, _, _, _, _, _, _, _, _, _, _, _, _, _, _] (v := .slice _ _ _) rfl rfl rfl rfl ?_
    refine seqV.calm [_, _, _, _, _, _, _, _, _, _, _, _, _, _, _, _, _, _, _, _, _, _, _, _, _] (v := .int _ _) rfl rfl rfl rfl ?_
    refine seqV.index [_, _, _, _, _, _, _, _, _, _, _, _, _, _, _, _, _, _, _, _, _, _, _, _, _] rfl rfl rfl rfl q1 rfl ?_
    refine seqV.field [_, _, _, _, _, _, _, _, _, _, _, _, _, _, _, _, _, _, _, _, _, _, _, _, _] (off := 0) (by kernel_rfl) rfl rfl rfl ?_
    refine seqV.load [_, _, _, _, _, _, _, _, _, _, _, _, _, _, _, _, _, _, _, _, _, _, _, _, _] (by kernel_rfl) (by kernel_rfl) rfl rfl q2 q3 rfl ?_
    refine seqV.calm [_, _, _, _, _, _, _, _, _, _, _, _, _, _, _, _, _, _, _, _, _, _, _, _, _] (v := .string _) rfl rfl rfl rfl ?_
    refine seqV.calm [_, _, _, _, _, _, _, _, _, _, _, _, _, _, _, _, _, _, _, _, _, _, _, _, _] (v := .bool _) rfl rfl rfl rfl ?_
    refine seqV.nil ?_
    refine AWp.testV rfl rfl ?_ ?_
    · intro he
      refine AWp.seq ?_
      refine AWp.seq_region (l := _) pok ?_
      refine seqV.calm [_, _, _, _, _, _, _, _, _, _, _, _, _, _, _, _, _, _, _, _, _, _, _, _, _] (v := .slice _ _ _) rfl rfl rfl rfl ?_
      refine seqV.calm [_, _, _, _, _, _, _, _, _, _, _, _, _, _, _, _, _, _, _, _, _, _, _, _, _] (v := .int _ _) rfl rfl rfl rfl ?_
      refine seqV.index [_, _, _, _, _, _, _, _, _, _, _, _, _, _, _, _, _, _, _, _, _, _, _, _, _] rfl rfl rfl rfl q1 rfl ?_
      refine seqV.field [_, _, _, _, _, _, _, _, _, _, _, _, _, _, _, _, _, _, _, _, _, _, _, _, _] (off := 1) (by kernel_rfl) rfl rfl rfl ?_
      refine seqV.load [_, _, _, _, _, _, _, _, _, _, _, _, _, _, _, _, _, _, _, _, _, _, _, _, _] (by kernel_rfl) (by kernel_rfl) rfl rfl q2 q4 rfl ?_
      refine seqV.calm [_, _, _, _, _, _, _, _, _, _, _, _, _, _, _, _, _, _, _, _, _, _, _, _, _] (v := .string _) rfl rfl rfl rfl ?_
      refine seqV.calm [_, _, _, _, _, _, _, _, _, _, _, _, _, _, _, _, _, _, _, _, _, _, _, _, _] (v := .bool _) rfl rfl rfl rfl ?_
      refine seqV.nil ?_
      refine AWp.ret ?_
      refine ⟨rfl, _, rfl, ?_, rfl, rfl⟩
      have hg : getS ls name = (x.2, true) := by
        unfold getS
        have hf : ls.find? (fun x => eqS x.1 name) = some x := by
          rw [List.find?_eq_some_iff_getElem]
          obtain ⟨hi, hxi⟩ := List.getElem?_eq_some_iff.1 hx
          refine ⟨he, i, hi, hxi, fun j hj => ?_⟩
          simp [hno j _ hj (List.getElem?_eq_getElem (by omega))]
        rw [hf]
      rw [hg]
      rfl
    · intro he
      refine AWp.skip ?_
      refine AWp.seq_region (l := _) pok ?_
      refine seqV.calm [_, _, _, _, _, _, _, _, _, _, _, _, _, _, _, _, _, _, _, _, _, _, _, _, _] (v := .int _ _) rfl rfl rfl rfl ?_
      refine seqV.calm [_, _, _, _, _, _, _, _, _, _, _, _, _, _, _, _, _, _, _, _, _, _, _, _, _] (v := .int .i64 ((i : Int) + 1)) rfl rfl ?_ rfl ?_
      · show some (Value.int .i64 (IntKind.wrap .i64 ((i : Int) + 1))) = _
        rw [wrap64_in (by omega) (by omega)]
      refine seqV.calm [_, _, _, _, _, _, _, _, _, _, _, _, _, _, _, _, _, _, _, _, _, _, _, _, _] (v := .int .i64 ((i + 1 : Nat) : Int)) rfl rfl rfl rfl ?_
      refine seqV.nil ?_
      refine ⟨_, d - 1, rfl, by omega, rfl, rfl, i + 1, by omega, ?_, _, _, _, _, _, _, _, _, _, _, _, _, _, _, _, _, _, _, _, _, rfl⟩
      intro j y hj hy
      by_cases e : j = i
      · subst e; rw [hx] at hy; cases hy; exact he
      · exact hno j y (by omega) hy
  · intro hge
    have hge : ¬ (i : Int) < ls.length := by simpa using hge
    refine AWp.exit ?_
    refine AWp.seq ?_
    refine AWp.seq_region (l := _) pok ?_
    refine seqV.calm [_, _, _, _, _, _, _, _, _, _, _, _, _, _, _, _, _, _, _, _, _, _, _, _, _] (v := .string _) rfl rfl rfl rfl ?_
    refine seqV.calm [_, _, _, _, _, _, _, _, _, _, _, _, _, _, _, _, _, _, _, _, _, _, _, _, _] (v := .bool _) rfl rfl rfl rfl ?_
    refine seqV.nil ?_
    refine AWp.ret ?_
    refine ⟨rfl, _, rfl, ?_, rfl, rfl⟩
    have hg : getS ls name = (⟨#[]⟩, false) := by
      unfold getS
      have hf : ls.find? (fun x => eqS x.1 name) = none := by
        rw [List.find?_eq_none]
        intro x hx
        obtain ⟨j, hj⟩ := List.mem_iff_getElem?.1 hx
        simp [hno j x (by have := (List.getElem?_eq_some_iff.1 hj).1; omega) hj]
      rw [hf]
    rw [hg]
    rfl
/-- slices.IndexFunc[[]baton/api.Label,baton/api.Label] -/
def idxL (p : Lab → Bool) (ls : List Lab) : Int := match ls.findIdx? p with
  | some i => i
  | none => -1

theorem f49_spec {h : Heap} {n : Nat} {l : Value} {ls : List Lab} {kf : FuncId} {cap : Array Value} {p : Lab → Bool} (hl : IsLab h l ls) (hlen : ls.length < 9223372036854775808) (hkf : ((Tryz.prog.funcs[kf]?).bind (·.body)).isSome = true)
    (hp : ∀ (x : Lab) (m : Nat), n ≤ m → ACall Tryz.prog kf (#[].toList ++ [Value.agg #[.string x.1, .string x.2]] ++ cap.toList).toArray h m fun r h' n' => r = .ret (.bool (p x)) ∧ h' = h ∧ m ≤ n') :
    ACall Tryz.prog 49 #[l, .func (.func kf) #[] cap] h n fun r h' n' => r = .ret (.int .i64 (idxL p ls)) ∧ h' = h ∧ n ≤ n' := by
  obtain ⟨a, cp, rfl⟩ := hl.slice
  refine ACall.of_bodyV (args := [.slice a ls.length cp, .func (.func kf) #[] cap]) Tryz.func49 rfl rfl ?_
  refine AWp.seq ?_
  refine AWp.seq_region (l := _) pok ?_
  refine seqV.calm [_, _, _, _, _, _, _, _, _, _, _, _, _, _, _, _, _, _, _] (v := .int _ _) rfl rfl rfl rfl ?_
  refine seqV.nil ?_
  refine AWp.seq ?_
  refine AWp.seq ?_
  refine AWp.seq_region (l := _) pok ?_
  refine seqV.calm [_, _, _, _, _, _, _, _, _, _, _, _, _, _, _, _, _, _, _] (v := .slice _ _ _) rfl rfl rfl rfl ?_
  refine seqV.calm [_, _, _, _, _, _, _, _, _, _, _, _, _, _, _, _, _, _, _] (v := .int _ _) rfl rfl rfl rfl ?_
  refine seqV.calm [_, _, _, _, _, _, _, _, _, _, _, _, _, _, _, _, _, _, _] (v := .int _ _) rfl rfl rfl rfl ?_
  refine seqV.nil ?_
  refine AWp.block ?_
  refine AWp.loopV (fun d vs h' n' => h' = h ∧ n ≤ n' ∧ ∃ i : Nat, d + i = ls.length + 1 ∧ (∀ j x, j < i → ls[j]? = some x → p x = false) ∧ ∃ x2 x3 x4 x5 x6 x9 x10 x11 x12 x13 x14 x15 x16 x17 x18, vs = [.slice a ls.length cp, .func (.func kf) #[] cap, x2, x3, x4, x5, x6, .int .i64 ls.length, .int .i64 i, x9, x10, x11, x12, x13, x14, x15, x16, x17, x18]) (ls.length + 1) ⟨rfl, Nat.le_refl _, 0, rfl, (fun j x hj => by omega), _, _, _, _, _, _, _, _, _, _, _, _, _, _, _, rfl⟩ ?_
  rintro d vs h' n' ⟨rfl, hn0, i, hdi, hno, x2, x3, x4, x5, x6, x9, x10, x11, x12, x13, x14, x15, x16, x17, x18, rfl⟩
  refine AWp.seq ?_
  refine AWp.seq_region (l := _) pok ?_
  refine seqV.calm [_, _, _, _, _, _, _, _, _, _, _, _, _, _, _, _, _, _, _] (v := .bool _) rfl rfl rfl rfl ?_
  refine seqV.nil ?_
  refine AWp.seq ?_
  refine AWp.testV rfl rfl ?_ ?_
  · intro hc
    have hlt : (i : Int) < ls.length := by simpa using hc
    obtain ⟨x, hx⟩ : ∃ x, ls[i]? = some x := ⟨ls[i]'(by omega), List.getElem?_eq_getElem _⟩
    obtain ⟨b, o, cs, own, ci, q1, q2, q3, q4⟩ := hl.at hx
    refine AWp.skip ?_
    refine AWp.seq ?_
    refine AWp.block ?_
    refine AWp.seq ?_
    refine AWp.seq_region (l := _) pok ?_
    refine seqV.calm [_, _, _, _, _, _, _, _, _, _, _, _, _, _, _, _, _, _, _] (v := .int _ _) rfl rfl rfl rfl ?_
    refine seqV.calm [_, _, _, _, _, _, _, _, _, _, _, _, _, _, _, _, _, _, _] (v := .int _ _) rfl rfl rfl rfl ?_
    refine seqV.nil ?_
    refine AWp.seq ?_
    refine AWp.seq_region (l := _) pok ?_
    refine seqV.calm [_, _, _, _, _, _, _, _, _, _, _, _, _, _, _, _, _, _, _] (v := .func _ _ _) rfl rfl rfl rfl ?_
    refine seqV.calm [_, _, _, _, _, _, _, _, _, _, _, _, _, _, _, _, _, _, _] (v := .slice _ _ _) rfl rfl rfl rfl ?_
    refine seqV.calm [_, _, _, _, _, _, _, _, _, _, _, _, _, _, _, _, _, _, _] (v := .int _ _) rfl rfl rfl rfl ?_
    refine seqV.index [_, _, _, _, _, _, _, _, _, _, _, _, _, _, _, _, _, _, _] rfl rfl rfl rfl q1 rfl ?_
    refine seqV.loadA [_, _, _, _, _, _, _, _, _, _, _, _, _, _, _, _, _, _, _] (by kernel_rfl) (by kernel_rfl) rfl rfl (rowE_two q2 q3 q4) rfl ?_
    refine seqV.callV _ (xs := _) rfl rfl rfl hkf rfl rfl (fun _ => rfl) (ACall.ex (hp x _ hn0)) ?_
    rintro v h1 n1 ⟨rfl, rfl, hn⟩
    refine seqV.norm [_, _, _, _, _, _, _, _, _, _, _, _, _, _, _, _, _, _, _] rfl ?_
    refine seqV.nil ?_
    refine AWp.testV rfl rfl ?_ ?_
    · intro hc
      refine AWp.seq ?_
      refine AWp.seq_region (l := _) pok ?_
      refine seqV.calm [_, _, _, _, _, _, _, _, _, _, _, _, _, _, _, _, _, _, _] (v := .int _ _) rfl rfl rfl rfl ?_
      refine seqV.calm [_, _, _, _, _, _, _, _, _, _, _, _, _, _, _, _, _, _, _] (v := .int _ _) rfl rfl rfl rfl ?_
      refine seqV.nil ?_
      refine AWp.ret ?_
      refine ⟨rfl, _, rfl, ?_, rfl, by omega⟩
      have hg : idxL p ls = i := by
        unfold idxL
        have hf : ls.findIdx? p = some i := by
          rw [List.findIdx?_eq_some_iff_getElem]
          obtain ⟨hi, hxi⟩ := List.getElem?_eq_some_iff.1 hx
          refine ⟨hi, by rw [hxi]; exact hc, fun j hj => ?_⟩
          have hjl : j < ls.length := Nat.lt_trans hj hi
          simp [hno j _ hj (List.getElem?_eq_getElem hjl)]
        rw [hf]
      rw [hg]
      rfl
    · intro hc
      refine AWp.skip ?_
      refine AWp.seq_region (l := _) pok ?_
      refine seqV.calm [_, _, _, _, _, _, _, _, _, _, _, _, _, _, _, _, _, _, _] (v := .int .i64 ((i : Int) + 1)) rfl rfl ?_ rfl ?_
      · show some (Value.int .i64 (IntKind.wrap .i64 ((i : Int) + 1))) = _
        rw [wrap64_in (by omega) (by omega)]
      refine seqV.calm [_, _, _, _, _, _, _, _, _, _, _, _, _, _, _, _, _, _, _] (v := .int .i64 ((i + 1 : Nat) : Int)) rfl rfl rfl rfl ?_
      refine seqV.nil ?_
      refine ⟨_, d - 1, rfl, by omega, rfl, by omega, i + 1, by omega, ?_, _, _, _, _, _, _, _, _, _, _, _, _, _, _, _, rfl⟩
      have hpx : p x = false := hc
      clear hc
      intro j y hj hy
      by_cases e : j = i
      · rw [e, hx] at hy; cases hy; exact hpx
      · exact hno j y (by omega) hy
  · intro hc
    refine AWp.exit ?_
    refine AWp.seq ?_
    refine AWp.seq_region (l := _) pok ?_
    refine seqV.calm [_, _, _, _, _, _, _, _, _, _, _, _, _, _, _, _, _, _, _] (v := .int _ _) rfl rfl rfl rfl ?_
    refine seqV.nil ?_
    refine AWp.ret ?_
    refine ⟨rfl, _, rfl, ?_, rfl, hn0⟩
    have hge : ¬ (i : Int) < ls.length := by simpa using hc
    have hg : idxL p ls = -1 := by
      unfold idxL
      have hf : ls.findIdx? p = none := by
        rw [List.findIdx?_eq_none_iff]
        intro x hx
        obtain ⟨j, hj⟩ := List.mem_iff_getElem?.1 hx
        exact hno j x (by have := (List.getElem?_eq_some_iff.1 hj).1; omega) hj
      rw [hf]
    rw [hg]
    rfl

/-- baton/labels.Get -/
theorem IsLab.sub {h h' : Heap} {l : Value} {ls : List Lab} (q : IsLab h l ls) (hs : h.sub h') : IsLab h' l ls := by
  cases q with
  | nil => exact .nil
  | row hb hc hle => exact .row (hs _ _ hb) hc hle

theorem getS_idx (ls : List Lab) (name : ByteArray) : (idxL (fun x => eqS x.1 name) ls < 0 ∧ getS ls name = (⟨#[]⟩, false)) ∨ ∃ i x, idxL (fun x => eqS x.1 name) ls = (i : Nat) ∧ ls[i]? = some x ∧ getS ls name = (x.2, true) := by
  unfold idxL getS
  rw [List.find?_eq_bind_findIdx?_getElem?]
  cases hf : ls.findIdx? (fun x => eqS x.1 name) with
  | none => left; exact ⟨by decide, rfl⟩
  | some i =>
    right
    obtain ⟨hi, hx, _⟩ := List.findIdx?_eq_some_iff_getElem.1 hf
    exact ⟨i, ls[i], rfl, List.getElem?_eq_getElem hi, by simp [hi]⟩

theorem f29_spec {h : Heap} {n : Nat} {l : Value} {ls : List Lab} {name : ByteArray} (hl : IsLab h l ls) (hlen : ls.length < 9223372036854775808) :
    ACall Tryz.prog 29 #[l, .string name] h n fun r h' n' => r = .ret (.tuple #[.string (getS ls name).1, .bool (getS ls name).2]) ∧ h' = h ∧ n ≤ n' := by
  refine ACall.shrink (ACall.fresh fun hfr => ?_)
  have hn0 := hfr n (Nat.le_refl _)
  have hl1 := hl.sub (sub_set (o := .cells [.string name] true ⟨9, 0, true⟩) hn0)
  obtain ⟨a, cp, rfl⟩ := hl.slice
  refine ACall.of_bodyV (args := [.slice a ls.length cp, .string name]) Tryz.func29 rfl rfl ?_
  refine AWp.seq ?_
  refine AWp.seq_region (l := _) pok ?_
  refine seqV.act [_, _, _, _, _, _, _, _, _, _, _, _, _, _, _, _, _] (v := .pointer (some ⟨_, _, none⟩)) rfl rfl rfl rfl rfl ?_
  refine seqV.calm [_, _, _, _, _, _, _, _, _, _, _, _, _, _, _, _, _] (v := .string _) rfl rfl rfl rfl ?_
  refine seqV.calm [_, _, _, _, _, _, _, _, _, _, _, _, _, _, _, _, _] (v := .bool _) rfl rfl rfl rfl ?_
  refine seqV.nil ?_
  refine AWp.seq ?_
  refine AWp.seq_region (l := _) pok ?_
  refine seqV.calm [_, _, _, _, _, _, _, _, _, _, _, _, _, _, _, _, _] (v := .slice _ _ _) rfl rfl rfl rfl ?_
  refine seqV.calm [_, _, _, _, _, _, _, _, _, _, _, _, _, _, _, _, _] (v := .func _ _ _) rfl rfl rfl rfl ?_
  refine seqV.callF _ (xs := _) rfl rfl (by kernel_rfl) rfl (fun _ => rfl) (ACall.ex (f49_spec (p := fun x => eqS x.1 name) hl1 hlen (by kernel_rfl) fun x m hm => f50_spec (Trie.get_set_same _ _ _))) ?_
  rintro v h1 n1 ⟨rfl, rfl, hn⟩
  refine seqV.norm [_, _, _, _, _, _, _, _, _, _, _, _, _, _, _, _, _] rfl ?_
  refine seqV.calm [_, _, _, _, _, _, _, _, _, _, _, _, _, _, _, _, _] (v := .int _ _) rfl rfl rfl rfl ?_
  refine seqV.nil ?_
  refine AWp.seq ?_
  refine AWp.seq ?_
  refine AWp.seq_region (l := _) pok ?_
  refine seqV.calm [_, _, _, _, _, _, _, _, _, _, _, _, _, _, _, _, _] (v := .int _ _) rfl rfl rfl rfl ?_
  refine seqV.calm [_, _, _, _, _, _, _, _, _, _, _, _, _, _, _, _, _] (v := .bool _) rfl rfl rfl rfl ?_
  refine seqV.nil ?_
  refine AWp.testV rfl rfl ?_ ?_
  · intro hc
    refine AWp.seq ?_
    refine AWp.seq_region (l := _) pok ?_
    refine seqV.calm [_, _, _, _, _, _, _, _, _, _, _, _, _, _, _, _, _] (v := .string _) rfl rfl rfl rfl ?_
    refine seqV.calm [_, _, _, _, _, _, _, _, _, _, _, _, _, _, _, _, _] (v := .bool _) rfl rfl rfl rfl ?_
    refine seqV.nil ?_
    refine AWp.ret ?_
    refine ⟨rfl, _, rfl, ?_, sub_set hn0⟩
    have hneg : idxL (fun x => eqS x.1 name) ls < 0 := by simpa using hc
    rcases getS_idx ls name with ⟨_, hg⟩ | ⟨i, x, hi, _, _⟩
    · rw [hg]; rfl
    · omega
  · intro hc
    have hneg : ¬ idxL (fun x => eqS x.1 name) ls < 0 := by simpa using hc
    obtain ⟨i, x, hi, hx, hg⟩ : ∃ i x, idxL (fun x => eqS x.1 name) ls = (i : Nat) ∧ ls[i]? = some x ∧ getS ls name = (x.2, true) := by
      rcases getS_idx ls name with ⟨h1, _⟩ | q
      · exact (hneg h1).elim
      · exact q
    obtain ⟨b, o, cs, own, ci, q1, q2, q3, q4⟩ := hl1.at hx
    refine AWp.skip ?_
    refine AWp.seq ?_
    refine AWp.seq_region (l := _) pok ?_
    refine seqV.calm [_, _, _, _, _, _, _, _, _, _, _, _, _, _, _, _, _] (v := .slice _ _ _) rfl rfl rfl rfl ?_
    refine seqV.calm [_, _, _, _, _, _, _, _, _, _, _, _, _, _, _, _, _] (v := .int _ _) rfl rfl rfl rfl ?_
    refine seqV.index [_, _, _, _, _, _, _, _, _, _, _, _, _, _, _, _, _] rfl rfl rfl rfl (by rw [hi]; exact q1) rfl ?_
    refine seqV.field [_, _, _, _, _, _, _, _, _, _, _, _, _, _, _, _, _] (off := 1) (by kernel_rfl) rfl rfl rfl ?_
    refine seqV.load [_, _, _, _, _, _, _, _, _, _, _, _, _, _, _, _, _] (by kernel_rfl) (by kernel_rfl) rfl rfl q2 q4 rfl ?_
    refine seqV.calm [_, _, _, _, _, _, _, _, _, _, _, _, _, _, _, _, _] (v := .string _) rfl rfl rfl rfl ?_
    refine seqV.calm [_, _, _, _, _, _, _, _, _, _, _, _, _, _, _, _, _] (v := .bool _) rfl rfl rfl rfl ?_
    refine seqV.nil ?_
    refine AWp.ret ?_
    refine ⟨rfl, _, rfl, ?_, sub_set hn0⟩
    rw [hg]
    rfl
end Go.Proofs.YtkpjfibpaojelaaGreatDoor
