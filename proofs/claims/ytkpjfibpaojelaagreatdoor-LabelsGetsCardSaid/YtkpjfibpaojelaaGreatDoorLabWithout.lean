/- Without: labels but those of a name. -/
import Derived.Test.YtkpjfibpaojelaaGreatDoorLabDel
namespace Go.Proofs.YtkpjfibpaojelaaGreatDoor
open Go Go.Abs
set_option maxRecDepth 100000
set_option maxHeartbeats 1000000

theorem ACall.ex2 {P : Program} {f : FuncId} {args : Array Value} {h : Heap} {n : Nat} {R : Value → Heap → Prop} (c : ACall P f args h n fun r h' _ => ∃ v, r = .ret v ∧ R v h') : ACall P f args h n fun r h1 n1 => ∃ u, r = .ret u ∧ (R u h1 ∧ n ≤ n1) :=
  c.mono fun _ h' _ hn _ ⟨v, e, hr⟩ => ⟨h', Heap.sub_refl _, v, e, hr, hn⟩

theorem f31_spec {h : Heap} {n : Nat} {v : Value} {ls : List Lab} {name : ByteArray} (hl : IsLab h v ls) (hlen : ls.length < 100000) :
    ACall Tryz.prog 31 #[v, .string name] h n fun r h' _ => ∃ v, r = .ret v ∧ Fresh h h' n v (withoutL name ls) := by
  refine ACall.fresh fun hfr => ?_
  have hn0 := hfr n (Nat.le_refl _)
  have hl1 := hl.sub (sub_set (o := .cells [.string name] true ⟨9, 0, true⟩) hn0)
  have hfr1 : ∀ b, n + 1 ≤ b → (h.set n (.cells [.string name] true ⟨9, 0, true⟩)).get b = none := by
    intro b hb
    rw [Trie.get_set_ne _ _ (by omega)]
    exact hfr b (by omega)
  obtain ⟨a, cp, rfl⟩ := hl.slice
  refine ACall.of_bodyV (args := [.slice a ls.length cp, .string name]) Tryz.func31 rfl rfl ?_
  refine AWp.seq ?_
  refine AWp.seq_region (l := _) pok ?_
  refine seqV.act [_, _, _, _, _, _, _, _, _] (v := .pointer (some ⟨_, _, none⟩)) rfl rfl rfl rfl rfl ?_
  refine seqV.calm [_, _, _, _, _, _, _, _, _] (v := .slice _ _ _) rfl rfl rfl rfl ?_
  refine seqV.nil ?_
  refine AWp.seq ?_
  refine AWp.seq_region (l := _) pok ?_
  refine seqV.calm [_, _, _, _, _, _, _, _, _] (v := .slice _ _ _) rfl rfl rfl rfl ?_
  refine seqV.callF _ (xs := _) rfl rfl (by kernel_rfl) rfl (fun _ => rfl) (ACall.ex2 (f52_spec hl1 (by omega))) ?_
  rintro v h1 n1 ⟨hf, hn⟩
  refine seqV.norm [_, _, _, _, _, _, _, _, _] rfl ?_
  refine seqV.calm [_, _, _, _, _, _, _, _, _] (v := .func (.func 53) #[] #[.pointer (some ⟨n, 0, none⟩)]) rfl rfl rfl rfl ?_
  refine seqV.callF _ (xs := _) rfl rfl (by kernel_rfl) rfl (fun _ => rfl) (ACall.ex2 (f51_spec (p := fun x => eqS x.1 name) hfr1 hn hf hlen (by kernel_rfl) fun h2 x m hs => f53_spec (hs _ _ (Trie.get_set_same _ _ _)))) ?_
  rintro w h2 n2 ⟨hg, hn2⟩
  refine seqV.norm [_, _, _, _, _, _, _, _, _] rfl ?_
  refine seqV.calm [_, _, _, _, _, _, _, _, _] (v := w) rfl rfl rfl rfl ?_
  refine seqV.nil ?_
  refine AWp.ret ?_
  exact ⟨rfl, _, rfl, w, rfl, Heap.sub_trans (sub_set hn0) hg.sub, hg.lab, fun hne => by
    obtain ⟨b, cs, e, hb, hgb⟩ := hg.own hne
    exact ⟨b, cs, e, by omega, hgb⟩⟩
end Go.Proofs.YtkpjfibpaojelaaGreatDoor
