/- own, Clone: labels in new memory. -/
import Derived.Test.YtkpjfibpaojelaaGreatDoorLabHeap
namespace Go.Proofs.YtkpjfibpaojelaaGreatDoor
open Go Go.Abs
set_option maxRecDepth 100000
set_option maxHeartbeats 1000000

theorem build0 (h : Heap) (n : Nat) : buildSliceE Tryz.prog 22 0 [] h n = some (.val (.slice (some ⟨n, 0, none⟩) 0 0), h.set n (.cells [] true ⟨40, 0, true⟩), n + 1) := by kernel_rfl
theorem build1 (h : Heap) (n : Nat) (a b : Value) : buildSliceE Tryz.prog 22 1 [(0, .agg #[a, b])] h n = some (.val (.slice (some ⟨n, 0, none⟩) 1 1), h.set n (.cells [a, b] true ⟨40, 0, true⟩), n + 1) := by kernel_rfl

theorem append_none {h : Heap} {n : Nat} {s : Value} (hs : s = .slice none 0 0 ∨ ∃ b, s = .slice (some ⟨b, 0, none⟩) 0 0) {x : Value} (hx : IsLab h x []) : appendE Tryz.prog [22, 22] [s, x] h n = some (.val s, h, n) := by
  refine append_core hx fun i h2 h32 => ?_
  rcases hs with rfl | ⟨b, rfl⟩
  · simp
  · simp

theorem IsLab.of_cells {h : Heap} {b cap : Nat} {own : Bool} {ci : CI} {ls : List Lab} (hb : h.get b = some (.cells (labCells ls) own ci)) : IsLab h (.slice (some ⟨b, 0, none⟩) ls.length cap) ls :=
  .row hb (by rw [List.drop_zero, ← labCells_length, List.take_length]) (by rw [labCells_length]; omega)

theorem set_sub2 {h : Heap} {n m : Nat} {o o' : AObj} (hfr : ∀ b, n ≤ b → h.get b = none) (hm : n ≤ m) : h.sub ((h.set n o).set m o') := by
  intro b x hb
  have hlt : b < n := by
    rcases Nat.lt_or_ge b n with q | q
    · exact q
    · rw [hfr b q] at hb; cases hb
  rw [Trie.get_set, Trie.get_set, if_neg (by omega), if_neg (by omega)]
  exact hb

theorem f14_spec {h : Heap} {n : Nat} {l : Value} {ls : List Lab} (hl : IsLab h l ls) (hlen : ls.length < 1000000) :
    ACall Tryz.prog 14 #[l] h n fun r h' n' => ∃ v, r = .ret v ∧ Fresh h h' n v ls := by
  refine ACall.fresh fun hfr => ?_
  obtain ⟨a, cp, rfl⟩ := hl.slice
  refine ACall.of_bodyV (args := [.slice a ls.length cp]) Tryz.func14 rfl rfl ?_
  refine AWp.seq ?_
  refine AWp.seq_region (l := _) pok ?_
  refine seqV.calm [_, _, _, _, _, _] (v := .slice _ _ _) rfl rfl rfl rfl ?_
  refine seqV.nil ?_
  refine AWp.seq ?_
  refine AWp.seq_region (l := _) pok ?_
  refine seqV.act [_, _, _, _, _, _] rfl rfl rfl (build0 h n) rfl ?_
  refine seqV.calm [_, _, _, _, _, _] (v := .slice _ _ _) rfl rfl rfl rfl ?_
  have hl1 := hl.sub (sub_set (o := .cells [] true ⟨40, 0, true⟩) (hfr n (Nat.le_refl _)))
  by_cases hne : ls = []
  · subst hne
    refine seqV.act [_, _, _, _, _, _] rfl rfl rfl (append_none (.inr ⟨n, rfl⟩) hl1) rfl ?_
    refine seqV.calm [_, _, _, _, _, _] (v := .slice _ _ _) rfl rfl rfl rfl ?_
    refine seqV.nil ?_
    refine AWp.ret ?_
    exact ⟨rfl, _, rfl, _, rfl, sub_set (hfr n (Nat.le_refl _)), IsLab.of_cells (ls := []) (Trie.get_set_same _ _ _), fun q => (q rfl).elim⟩
  · refine seqV.act [_, _, _, _, _, _] rfl rfl rfl (append_empty (Trie.get_set_same _ _ _) hl1 hne hlen) rfl ?_
    refine seqV.calm [_, _, _, _, _, _] (v := .slice _ _ _) rfl rfl rfl rfl ?_
    refine seqV.nil ?_
    refine AWp.ret ?_
    exact ⟨rfl, _, rfl, _, rfl, set_sub2 hfr (Nat.le_succ n), IsLab.of_cells (Trie.get_set_same _ _ _), fun _ => ⟨n + 1, _, rfl, Nat.le_succ n, Trie.get_set_same _ _ _⟩⟩
end Go.Proofs.YtkpjfibpaojelaaGreatDoor
