/- Clone. -/
import Derived.Test.YtkpjfibpaojelaaGreatDoorLabOwn
namespace Go.Proofs.YtkpjfibpaojelaaGreatDoor
open Go Go.Abs
set_option maxRecDepth 100000
set_option maxHeartbeats 1000000

theorem f52_spec {h : Heap} {n : Nat} {l : Value} {ls : List Lab} (hl : IsLab h l ls) (hlen : ls.length < 1000000) :
    ACall Tryz.prog 52 #[l] h n fun r h' _ => ∃ v, r = .ret v ∧ Fresh h h' n v ls := by
  refine ACall.fresh fun hfr => ?_
  have hl1 := hl.sub (sub_set (o := .cells [] true ⟨40, 0, true⟩) (hfr n (Nat.le_refl _)))
  cases hl with
  | nil =>
    refine ACall.of_bodyV (args := [.slice none 0 0]) Tryz.func52 rfl rfl ?_
    refine AWp.seq ?_
    refine AWp.seq_region (l := _) pok ?_
    refine seqV.calm [_, _, _, _, _, _, _, _] (v := .slice _ _ _) rfl rfl rfl rfl ?_
    refine seqV.nil ?_
    refine AWp.seq ?_
    refine AWp.seq ?_
    refine AWp.seq_region (l := _) pok ?_
    refine seqV.calm [_, _, _, _, _, _, _, _] (v := .slice _ _ _) rfl rfl rfl rfl ?_
    refine seqV.calm [_, _, _, _, _, _, _, _] (v := .bool true) rfl rfl rfl rfl ?_
    refine seqV.nil ?_
    refine AWp.testV rfl rfl ?_ (fun hc => by cases hc)
    intro hc
    refine AWp.seq ?_
    refine AWp.seq_region (l := _) pok ?_
    refine seqV.calm [_, _, _, _, _, _, _, _] (v := .slice _ _ _) rfl rfl rfl rfl ?_
    refine seqV.nil ?_
    refine AWp.ret ?_
    exact ⟨rfl, _, rfl, _, rfl, Heap.sub_refl _, .nil, fun q => (q rfl).elim⟩
  | row hb hc hle =>
    rename_i b o cp cs own ci
    refine ACall.of_bodyV (args := [.slice (some ⟨b, o, none⟩) ls.length cp]) Tryz.func52 rfl rfl ?_
    refine AWp.seq ?_
    refine AWp.seq_region (l := _) pok ?_
    refine seqV.calm [_, _, _, _, _, _, _, _] (v := .slice _ _ _) rfl rfl rfl rfl ?_
    refine seqV.nil ?_
    refine AWp.seq ?_
    refine AWp.seq ?_
    refine AWp.seq_region (l := _) pok ?_
    refine seqV.calm [_, _, _, _, _, _, _, _] (v := .slice _ _ _) rfl rfl rfl rfl ?_
    refine seqV.calm [_, _, _, _, _, _, _, _] (v := .bool false) rfl rfl rfl rfl ?_
    refine seqV.nil ?_
    refine AWp.testV rfl rfl (fun hc => by cases hc) ?_
    intro hc
    refine AWp.skip ?_
    refine AWp.seq ?_
    refine AWp.seq_region (l := _) pok ?_
    refine seqV.act [_, _, _, _, _, _, _, _] rfl rfl rfl (build0 h n) rfl ?_
    refine seqV.calm [_, _, _, _, _, _, _, _] (v := .slice _ _ _) rfl rfl rfl rfl ?_
    by_cases hne : ls = []
    · subst hne
      refine seqV.act [_, _, _, _, _, _, _, _] rfl rfl rfl (append_none (.inr ⟨n, rfl⟩) hl1) rfl ?_
      refine seqV.calm [_, _, _, _, _, _, _, _] (v := .slice _ _ _) rfl rfl rfl rfl ?_
      refine seqV.nil ?_
      refine AWp.ret ?_
      exact ⟨rfl, _, rfl, _, rfl, sub_set (hfr n (Nat.le_refl _)), IsLab.of_cells (ls := []) (Trie.get_set_same _ _ _), fun q => (q rfl).elim⟩
    · refine seqV.act [_, _, _, _, _, _, _, _] rfl rfl rfl (append_empty (Trie.get_set_same _ _ _) hl1 hne hlen) rfl ?_
      refine seqV.calm [_, _, _, _, _, _, _, _] (v := .slice _ _ _) rfl rfl rfl rfl ?_
      refine seqV.nil ?_
      refine AWp.ret ?_
      exact ⟨rfl, _, rfl, _, rfl, set_sub2 hfr (Nat.le_succ n), IsLab.of_cells (Trie.get_set_same _ _ _), fun _ => ⟨n + 1, _, rfl, Nat.le_succ n, Trie.get_set_same _ _ _⟩⟩
end Go.Proofs.YtkpjfibpaojelaaGreatDoor
