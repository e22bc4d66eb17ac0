/- A slice of labels that comes in: how it is opened. -/
import Derived.Test.YtkpjfibpaojelaaGreatDoorLabB
import Derived.SevenTiedAt
namespace Go.Proofs.YtkpjfibpaojelaaGreatDoor
open Go Go.Abs Go.ChangeShapes Go.RowKit Go.WideShapes
set_option maxRecDepth 100000
set_option maxHeartbeats 1000000

theorem rowAt_le {P : Program} {fits : TypeId → Bool} : ∀ {d : Nat} {e : TypeId} {count off n : Nat}, rowAt P fits d e count off n = true → off ≤ count * P.cellsOf e := by
  intro d
  cases d with
  | zero => intro e count off n h; simp [rowAt] at h
  | succ d =>
    intro e count off n h
    unfold rowAt at h
    simp only at h
    split at h
    · cases h
    · rename_i hs
      have hpos : 0 < P.cellsOf e := Nat.pos_of_ne_zero hs
      have hdm := Nat.div_add_mod off (P.cellsOf e)
      have hml := Nat.mod_lt off hpos
      simp only [Bool.or_eq_true, Bool.and_eq_true, beq_iff_eq, decide_eq_true_eq] at h
      rcases h with ⟨⟨h1, h2⟩, _⟩ | ⟨h1, _⟩
      · have : off / P.cellsOf e ≤ count := by omega
        have := Nat.mul_le_mul_left (P.cellsOf e) this
        rw [Nat.mul_comm count]
        omega
      · have : off / P.cellsOf e + 1 ≤ count := h1
        have := Nat.mul_le_mul_left (P.cellsOf e) this
        rw [Nat.mul_add] at this
        rw [Nat.mul_comm count]
        omega

theorem liesAt_le {P : Program} : ∀ {d : Nat} {e u : TypeId} {count off n : Nat}, liesAt P d e count off u n = true → off ≤ count * P.cellsOf e := by
  intro d
  induction d with
  | zero => intro e u count off n h; simp [liesAt] at h
  | succ d ih =>
    intro e u count off n h
    unfold liesAt at h
    rw [Bool.or_eq_true] at h
    rcases h with h | h
    · exact rowAt_le h
    · split at h
      · exact ih h
      · cases h

theorem exists_list {α : Type} {Q : Nat → α → Prop} : ∀ (len : Nat), (∀ i, i < len → ∃ x, Q i x) → ∃ ls : List α, ls.length = len ∧ ∀ i x, ls[i]? = some x → Q i x := by
  intro len
  induction len with
  | zero => intro _; exact ⟨[], rfl, fun i x h => by simp at h⟩
  | succ len ih =>
    intro h
    obtain ⟨ls, hl, hq⟩ := ih fun i hi => h i (by omega)
    obtain ⟨x, hx⟩ := h len (by omega)
    refine ⟨ls ++ [x], by simp [hl], fun i y hy => ?_⟩
    by_cases hi : i < ls.length
    · rw [List.getElem?_append_left hi] at hy; exact hq i y hy
    · rw [List.getElem?_append_right (by omega)] at hy
      have : i - ls.length = 0 := by
        cases hc : i - ls.length with
        | zero => rfl
        | succ k => rw [hc] at hy; simp at hy
      rw [this] at hy
      simp at hy
      subst hy
      rw [show i = len by omega]
      exact hx

theorem und22 : Tryz.prog.underlying 22 = some (.slice 40) := by kernel_rfl
theorem und9 : Tryz.prog.underlying 9 = some .string := by kernel_rfl
theorem cells9 : Tryz.prog.cellsOf 9 = 1 := by kernel_rfl
theorem cells40 : Tryz.prog.cellsOf 40 = 2 := by kernel_rfl

theorem open_label {H : Type} {enc : TypeId × Value → H} {W : World} {base : Nat} {sp : Nat → Bool} {held : Bool} {fuel : Nat} {cs : List Value} {x : DataW H × List MemPlace} (h : DataW.trod enc Tryz.prog W base sp held fuel 40 cs = some x) : ∃ s t : ByteArray, cs = [.string s, .string t] := by
  obtain ⟨xs, n, rfl, hx, hl, hxl, hall⟩ := DataW.trod_struct Tryz.underlying40 h
  rw [cells40] at hl
  match cs, hl with
  | [a, b], _ =>
    have h0 : DataW.trod enc Tryz.prog W base sp held n 9 (([a, b].drop 0).take (Tryz.prog.cellsOf 9)) = xs[0]? := hall 0 _ rfl
    have h1 : DataW.trod enc Tryz.prog W base sp held n 9 (([a, b].drop 1).take (Tryz.prog.cellsOf 9)) = xs[1]? := hall 1 _ rfl
    rw [cells9] at h0 h1
    have hx2 : xs.length = 2 := hxl
    obtain ⟨y0, e0⟩ : ∃ y, xs[0]? = some y := ⟨xs[0]'(by omega), List.getElem?_eq_getElem _⟩
    obtain ⟨y1, e1⟩ : ∃ y, xs[1]? = some y := ⟨xs[1]'(by omega), List.getElem?_eq_getElem _⟩
    rw [e0] at h0
    rw [e1] at h1
    obtain ⟨s, hs, _⟩ := DataW.trod_string und9 h0
    obtain ⟨t, ht, _⟩ := DataW.trod_string und9 h1
    refine ⟨s, t, ?_⟩
    have hs' : [a] = [Value.string s] := hs
    have ht' : [b] = [Value.string t] := ht
    cases hs'
    cases ht'
    rfl

theorem open_labels {H : Type} {enc : TypeId × Value → H} {W : World} {base : Nat} {v : Value} {d : DataW H} {ps : List MemPlace} (hval : Value.okWide Tryz.prog W .any base 22 v) (h0 : DataW.Trod enc Tryz.prog W 0 (fun _ => true) true 22 v d ps) :
    v = .slice none 0 0 ∨ ∃ (bk off cap : Nat) (c : Array Value) (el : TypeId) (fr : Nat × Nat) (ls : List Lab), v = .slice (some ⟨bk, off, none⟩) ls.length cap ∧ ls.length ≤ cap ∧ cap ≤ maxLen ∧ W.heap[bk]? = some (.cells c el fr) ∧ off + 2 * ls.length ≤ c.size ∧ ∀ i y, (encLab.row ls)[i]? = some y → c[off + i]? = some y := by
  obtain ⟨a, len, cap, rfl⟩ := okWide_slice und22 hval
  obtain ⟨fuel, hf⟩ := h0
  rcases DataW.trod_slice und22 hf with ⟨h1, _⟩ | ⟨a', len', cap', elems, rest, n, rfl, h1, _, _, hl, hm, hlen, hel, _, _⟩
  · left
    simp [Value.cells] at h1
    obtain ⟨rfl, rfl, rfl⟩ := h1
    rfl
  · right
    simp [Value.cells] at h1
    obtain ⟨rfl, rfl, rfl⟩ := h1
    have hok : len ≤ cap ∧ (cap : Int) ≤ IntKind.i64.max ∧ W.has Tryz.prog .any base a' 40 cap := by
      simpa only [Value.okWide, und22, Cell.okWide, Cell.ok] using hval
    obtain ⟨_, hspot, row, cells, hsh, hlie⟩ := hok.2.2
    obtain ⟨bk, off, spot⟩ := a'
    simp only at hspot hsh hlie
    subst hspot
    unfold World.shape? at hsh
    split at hsh
    · rename_i c el fr hheap
      cases hsh
      have hoff : off ≤ c.size := by
        have h2 := liesAt_le hlie
        exact Nat.le_trans h2 (Nat.div_mul_le_self _ _)
      have hcell : ∀ i, i < len → ∃ x : Lab, c[off + 2 * i]? = some (.string x.1) ∧ c[off + 2 * i + 1]? = some (.string x.2) := by
        intro i hi
        have h2 := hel i hi
        obtain ⟨y, hy⟩ : ∃ y, elems[i]? = some y := ⟨elems[i]'(by omega), List.getElem?_eq_getElem _⟩
        rw [hy, cells40, Option.bind_eq_some_iff] at h2
        obtain ⟨cs, hcs, htr⟩ := h2
        obtain ⟨s, t, rfl⟩ := open_label htr
        simp only [World.cells?, Nat.zero_le, if_true, Addr.add_plain] at hcs
        have e0 := Lib.mapM_at hcs 0 0 rfl
        have e1 := Lib.mapM_at hcs 1 1 rfl
        obtain ⟨z0, f0, g0⟩ := e0
        obtain ⟨z1, f1, g1⟩ := e1
        simp at f0 f1
        subst f0; subst f1
        rw [cell_of_block hheap] at g0 g1
        exact ⟨(s, t), by rw [← g0]; congr 1; omega, by rw [← g1]; congr 1; omega⟩
      obtain ⟨ls, hll, hq⟩ := exists_list len hcell
      subst hll
      refine ⟨bk, off, cap, c, _, fr, ls, rfl, hl, hm, hheap, ?_, ?_⟩
      · by_cases hz : ls.length = 0
        · omega
        · obtain ⟨x, hx⟩ : ∃ x, ls[ls.length - 1]? = some x := ⟨ls[ls.length - 1]'(by omega), List.getElem?_eq_getElem _⟩
          have := (Array.getElem?_eq_some_iff.1 (hq _ _ hx).2).1
          omega
      · intro i y hy
        have hil := (List.getElem?_eq_some_iff.1 hy).1
        rw [encLab.row_length] at hil
        have hk2 : encLab.k = 2 := rfl
        rw [hk2] at hil
        obtain ⟨x, hx⟩ : ∃ x, ls[i / 2]? = some x := ⟨ls[i / 2]'(by omega), List.getElem?_eq_getElem _⟩
        have e1 : (encLab.row ls)[2 * (i / 2)]? = some (.string x.1) := encLab.row_get ls _ x hx 0 _ rfl
        have e2 : (encLab.row ls)[2 * (i / 2) + 1]? = some (.string x.2) := encLab.row_get ls _ x hx 1 _ rfl
        obtain ⟨q1, q2⟩ := hq _ _ hx
        by_cases h2 : i % 2 = 0
        · have ei : 2 * (i / 2) = i := by omega
          rw [ei] at e1 q1
          rw [hy] at e1
          cases e1
          exact q1
        · have ei : 2 * (i / 2) + 1 = i := by omega
          rw [ei] at e2
          rw [show off + 2 * (i / 2) + 1 = off + i by omega] at q2
          rw [hy] at e2
          cases e2
          exact q2
    · cases hsh

/-- A slice of labels that comes in lies in a heap that grows by it. -/
theorem add_labels {μ : Mu} {h : Heap} {n : Nat} {W : World} {v : Value} (hr : Rel Tryz.prog μ h n W) (ro : ∀ b o, h.get b = some o → o.excl = false)
    (hv : v = .slice none 0 0 ∨ ∃ (bk off cap : Nat) (c : Array Value) (el : TypeId) (fr : Nat × Nat) (ls : List Lab), v = .slice (some ⟨bk, off, none⟩) ls.length cap ∧ ls.length ≤ cap ∧ cap ≤ maxLen ∧ W.heap[bk]? = some (.cells c el fr) ∧ off + 2 * ls.length ≤ c.size ∧ ∀ i y, (encLab.row ls)[i]? = some y → c[off + i]? = some y) :
    ∃ (μ' : Mu) (h' : Heap) (n' : Nat) (a : Option Addr) (cp : Nat) (ls : List Lab), Rel Tryz.prog μ' h' n' W ∧ (∀ b o, h'.get b = some o → o.excl = false) ∧ h.sub h' ∧ μ.le μ' ∧ VRel μ' (.slice a ls.length cp) v ∧ IsRow encLab h' (.slice a ls.length cp) ls ∧ ls.length < 9223372036854775808 ∧ ls.length ≤ cp ∧ cp < U := by
  rcases hv with rfl | ⟨bk, off, cap, c, el, fr, ls, rfl, hlc, hcm, hb, hoff, hcells⟩
  · exact ⟨μ, h, n, none, 0, [], hr, ro, Heap.sub_refl _, μ.le_refl, .snil, IsRow.nil, by decide, by decide, by decide⟩
  · have hflat : ((encLab.row ls).all flat) = true := by
      rw [List.all_eq_true]
      intro y hy
      obtain ⟨x, _, hx⟩ := List.mem_flatMap.1 hy
      simp only [encLab, List.mem_cons, List.not_mem_nil, or_false] at hx
      rcases hx with rfl | rfl <;> rfl
    have hlen : (encLab.row ls).length = 2 * ls.length := encLab.row_length ls
    obtain ⟨hr1, ro1⟩ := hr.addRO ro (o := .cells (encLab.row ls) false ⟨el, 0, false⟩) (x := .cells c el fr) (m := ⟨bk, off, c.size, 0⟩) rfl hb
      ⟨rfl, by rw [hlen]; exact hoff, fun i y hy => ⟨y, hcells i y hy, .flat_self (List.all_eq_true.1 hflat y (List.mem_of_getElem? hy))⟩, by simp, rfl, rfl, by simp⟩
    have hmax : maxLen < U := by decide
    have hm : ls.length < 9223372036854775808 := Nat.lt_of_le_of_lt (Nat.le_trans hlc hcm) (by decide)
    have hf : Free h n := fun b hb => hr.below hb
    have hle : μ.le (μ.set n ⟨bk, off, c.size, 0⟩) := by
      intro b m hbm
      unfold Mu.set
      by_cases e : b = n
      · subst e; rw [hr.bound _ (Nat.le_refl _)] at hbm; cases hbm
      · simp [e, hbm]
    refine ⟨_, _, _, some ⟨n, 0, none⟩, cap, ls, hr1, ro1, sub_alloc hf, hle, ?_, IsRow.of (Trie.get_set_same _ _ _) hlc, hm, hlc, Nat.lt_of_le_of_lt hcm hmax⟩
    exact VRel.slice (b := n) 0 ls.length cap cap (Mu.set_same _ _ _) (.inl ⟨by omega, rfl⟩)

/-- The contract of a law, over a world in which the program's variables lie. -/
theorem law_calls {W : World} {f : FuncId} {args args' : Array Value} {μ : Mu} {h : Heap} {n : Nat} (ro : ∀ b o, h.get b = some o → o.excl = false) (hr : Rel Tryz.prog μ h n W) (ha : ARel μ args args') (c : Tells Tryz.prog f args.toList h n (.bool true)) :
    Calls Tryz.prog f args' W fun e W' => e = .returned (.bool true) ∧ Below W.heap.size W W' :=
  calls_of_acall ro hr ha rfl (ACall.mono c fun _ h' _ _ _ ⟨e, _, _⟩ => ⟨h', Heap.sub_refl _, e⟩)
end Go.Proofs.YtkpjfibpaojelaaGreatDoor
