/- Slices of labels that a call makes: appends, own, Clone. -/
import Derived.Test.YtkpjfibpaojelaaGreatDoorLabLong
namespace Go.Proofs.YtkpjfibpaojelaaGreatDoor
open Go Go.Abs
set_option maxRecDepth 100000
set_option maxHeartbeats 1000000

theorem info40 : ∃ i, Tryz.prog.info? 40 = some i ∧ i.size = 2 ∧ i.bytes = 32 := by
  have h : (Tryz.prog.info? 40).map (fun i => (i.size, i.bytes)) = some (2, 32) := by kernel_rfl
  cases h40 : Tryz.prog.info? 40 with
  | none => rw [h40] at h; cases h
  | some i =>
    rw [h40] at h
    simp only [Option.map_some, Option.some.injEq, Prod.mk.injEq] at h
    exact ⟨i, rfl, h.1, h.2⟩

theorem zero40 : zeroOf Tryz.prog 40 = some (.agg #[.string ⟨#[]⟩, .string ⟨#[]⟩]) := by kernel_rfl
theorem und22 : Tryz.prog.underlying 22 = some (.slice 40) := by kernel_rfl

theorem labCells_one (ls : List Lab) : ((labCells ls).all fun x => x.oneCell') = true := by
  rw [List.all_eq_true]
  intro y hy
  obtain ⟨x, _, hx⟩ := List.mem_flatMap.1 hy
  simp only [List.mem_cons, List.not_mem_nil, or_false] at hx
  rcases hx with rfl | rfl <;> rfl

theorem IsLab.src {h : Heap} {v : Value} {ls : List Lab} (q : IsLab h v ls) : srcE h 2 v = some (labCells ls, ls.length) := by
  cases q with
  | nil => rfl
  | row hb hc hle =>
    simp only [srcE, rowE, hb]
    rw [if_pos (by omega), Nat.mul_comm ls.length 2, hc]

theorem append_core {h : Heap} {n : Nat} {s x : Value} {ys : List Lab} {r : Option (ARes × Heap × Nat)} (hx : IsLab h x ys)
    (hr : ∀ i : TypeInfo, i.size = 2 → i.bytes = 32 → (match s with
          | .slice none 0 0 =>
            if ys.length = 0 then some (ARes.val s, h, n)
            else if (2 * ys.length + 768) * i.bytes ≤ 2 ^ 48 ∧ ys.length < 2 ^ 62 then
              some (.val (.slice (some ⟨n, 0, none⟩) ys.length U), h.set n (.cells (labCells ys) true ⟨40, i.size, false⟩), n + 1)
            else none
          | .slice (some ⟨b, o, none⟩) len cap =>
            if ys.length = 0 then (if len ≤ cap then some (.val s, h, n) else none)
            else if (2 * (len + ys.length) + 768) * i.bytes ≤ 2 ^ 48 ∧ len + ys.length < 2 ^ 62 then
              if cap = U then
                match h.get b with
                | some (.cells cs true ci) =>
                  if ci.k = i.size ∧ o + len * i.size = cs.length ∧ ci.e = 40 then
                    some (.val (.slice (some ⟨n, 0, none⟩) (len + ys.length) U), (Trie.del h b).set n (.cells (cs.drop o ++ labCells ys) true ⟨40, i.size, false⟩), n + 1)
                  else none
                | _ => none
              else if len + ys.length ≤ cap then
                match h.get b with
                | some (.cells cs true ci) =>
                  if o + (len + ys.length) * i.size ≤ cs.length then
                    some (.val (.slice (some ⟨b, o, none⟩) (len + ys.length) cap), h.set b (.cells (setAll cs (o + len * i.size) (labCells ys)) true ci), n)
                  else none
                | _ => none
              else if len ≤ cap then
                match rowE h b o (len * i.size) with
                | some old => some (.val (.slice (some ⟨n, 0, none⟩) (len + ys.length) U), h.set n (.cells (old ++ labCells ys) true ⟨40, i.size, false⟩), n + 1)
                | none => none
              else none
            else none
          | _ => none) = r) : appendE Tryz.prog [22, 22] [s, x] h n = r := by
  obtain ⟨i, hi, h2, h32⟩ := info40
  have hsrc : srcE h i.size x = some (labCells ys, ys.length) := by
    rw [h2]
    exact hx.src
  simp only [appendE, und22, hi, zero40, hsrc, labCells_one]
  rw [if_pos ⟨by rw [h2]; rfl, by omega⟩]
  simp only [if_true]
  exact hr i h2 h32

theorem append_nil {h : Heap} {n : Nat} {x : Value} {ys : List Lab} (hx : IsLab h x ys) (hne : ys ≠ []) (hb : ys.length < 1000000) :
    appendE Tryz.prog [22, 22] [.slice none 0 0, x] h n = some (.val (.slice (some ⟨n, 0, none⟩) ys.length U), h.set n (.cells (labCells ys) true ⟨40, 2, false⟩), n + 1) := by
  refine append_core hx fun i h2 h32 => ?_
  have hpos : 0 < ys.length := List.length_pos_iff.2 hne
  simp only [h2, h32]
  rw [if_neg (by omega), if_pos ⟨by omega, by omega⟩]

theorem append_empty {h : Heap} {n b : Nat} {cs : List Value} {own : Bool} {ci : CI} {x : Value} {ys : List Lab} (hb0 : h.get b = some (.cells cs own ci)) (hx : IsLab h x ys) (hne : ys ≠ []) (hb : ys.length < 1000000) :
    appendE Tryz.prog [22, 22] [.slice (some ⟨b, 0, none⟩) 0 0, x] h n = some (.val (.slice (some ⟨n, 0, none⟩) ys.length U), h.set n (.cells (labCells ys) true ⟨40, 2, false⟩), n + 1) := by
  refine append_core hx fun i h2 h32 => ?_
  have hpos : 0 < ys.length := List.length_pos_iff.2 hne
  simp only [h2, h32]
  rw [if_neg (by omega), if_pos ⟨by omega, by omega⟩, if_neg (by decide), if_neg (by omega), if_pos (Nat.le_refl _)]
  simp [rowE, hb0]

theorem append_more {h : Heap} {n b : Nat} {fs ys : List Lab} {x : Value} (hb0 : h.get b = some (.cells (labCells fs) true ⟨40, 2, false⟩)) (hx : IsLab h x ys) (hne : ys ≠ []) (hb : ys.length < 1000000) (hf : fs.length < 1000000) :
    appendE Tryz.prog [22, 22] [.slice (some ⟨b, 0, none⟩) fs.length U, x] h n = some (.val (.slice (some ⟨n, 0, none⟩) (fs ++ ys).length U), (Trie.del h b).set n (.cells (labCells (fs ++ ys)) true ⟨40, 2, false⟩), n + 1) := by
  refine append_core hx fun i h2 h32 => ?_
  have hpos : 0 < ys.length := List.length_pos_iff.2 hne
  simp only [h2, h32, hb0]
  rw [if_neg (by omega), if_pos ⟨by omega, by omega⟩, if_pos trivial, if_pos ⟨trivial, by rw [labCells_length]; omega, trivial⟩]
  simp [labCells]

/-- A slice of labels that a call has made: new memory, its own. -/
structure Fresh (h h1 : Heap) (n : Nat) (v : Value) (ls : List Lab) : Prop where
  sub : h.sub h1
  lab : IsLab h1 v ls
  own : ls ≠ [] → ∃ b cs, v = .slice (some ⟨b, 0, none⟩) ls.length U ∧ n ≤ b ∧ h1.get b = some (.cells cs true ⟨40, 2, false⟩)
end Go.Proofs.YtkpjfibpaojelaaGreatDoor
