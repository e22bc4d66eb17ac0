/- Without, of the document's packages. -/
import Derived.Test.YtkpjfibpaojelaaGreatDoorLabIs
namespace Go.Proofs.YtkpjfibpaojelaaGreatDoor
open Go Go.Abs
set_option maxRecDepth 100000
set_option maxHeartbeats 1000000

theorem AWp.fresh {P : Program} {c : Code} {Q : APost} {fr : AAct} {h : Heap} {n : Nat} (q : (∀ b, n ≤ b → h.get b = none) → AWp P c Q fr h n) : AWp P c Q fr h n :=
  fun μ a w hf hr => q (fun _ hb => hr.below hb) μ a w hf hr

theorem sub_far {h h' : Heap} {n m : Nat} {o : AObj} (hs : h.sub h') (hfr : ∀ b, n ≤ b → h.get b = none) (hm : n ≤ m) : h.sub (h'.set m o) := by
  intro b x hx
  rw [Trie.get_set]
  split
  · rename_i e; subst e; rw [hfr _ hm] at hx; cases hx
  · exact hs _ _ hx

theorem sub_del {h h' : Heap} {n m : Nat} (hs : h.sub h') (hfr : ∀ b, n ≤ b → h.get b = none) (hm : n ≤ m) : h.sub (Trie.del h' m) := by
  intro b x hx
  rw [Trie.get_del]
  split
  · rename_i e; subst e; rw [hfr _ hm] at hx; cases hx
  · exact hs _ _ hx

def withoutL (name : ByteArray) (ls : List Lab) : List Lab := ls.filter fun x => !eqS x.1 name

theorem take_snoc {ls : List Lab} {i : Nat} {x : Lab} (hx : ls[i]? = some x) : ls.take (i + 1) = ls.take i ++ [x] := by
  rw [List.take_add_one, hx]; rfl

theorem without_snoc {ls : List Lab} {name : ByteArray} {i : Nat} {x : Lab} (hx : ls[i]? = some x) : withoutL name (ls.take (i + 1)) = if eqS x.1 name then withoutL name (ls.take i) else withoutL name (ls.take i) ++ [x] := by
  unfold withoutL
  rw [take_snoc hx, List.filter_append]
  cases he : eqS x.1 name <;> simp [he]

/-- What has been put together so far. -/
def OutL (h : Heap) (n : Nat) (out : Value) (fs : List Lab) : Prop := (fs = [] → out = .slice none 0 0) ∧ (fs ≠ [] → ∃ b, out = .slice (some ⟨b, 0, none⟩) fs.length U ∧ n ≤ b ∧ h.get b = some (.cells (labCells fs) true ⟨40, 2, false⟩))

theorem f32_spec {h : Heap} {n : Nat} {v : Value} {ls : List Lab} {name : ByteArray} (hl : IsLab h v ls) (hlen : ls.length < 100000) :
    ACall Tryz.prog 32 #[v, .string name] h n fun r h' n' => ∃ v, r = .ret v ∧ Fresh h h' n v (withoutL name ls) := by
  refine ACall.fresh fun hfr => ?_
  obtain ⟨a, cp, rfl⟩ := hl.slice
  refine ACall.of_bodyV (args := [.slice a ls.length cp, .string name]) Tryz.func32 rfl rfl ?_
  refine AWp.seq ?_
  refine AWp.seq_region (l := _) pok ?_
  refine seqV.calm [_, _, _, _, _, _, _, _, _, _, _, _, _, _, _, _, _, _, _, _, _, _, _, _, _, _, _, _] (v := .slice _ _ _) rfl rfl rfl rfl ?_
  refine seqV.nil ?_
  refine AWp.seq ?_
  refine AWp.seq_region (l := _) pok ?_
  refine seqV.calm [_, _, _, _, _, _, _, _, _, _, _, _, _, _, _, _, _, _, _, _, _, _, _, _, _, _, _, _] (v := .slice none 0 0) rfl rfl rfl rfl ?_
  refine seqV.nil ?_
  refine AWp.seq ?_
  refine AWp.seq ?_
  refine AWp.seq_region (l := _) pok ?_
  refine seqV.calm [_, _, _, _, _, _, _, _, _, _, _, _, _, _, _, _, _, _, _, _, _, _, _, _, _, _, _, _] (v := .int _ _) rfl rfl rfl rfl ?_
  refine seqV.nil ?_
  refine AWp.block ?_
  refine AWp.loopV (fun d vs h' n' => h.sub h' ∧ n ≤ n' ∧ ∃ (i : Nat) (out : Value), d + i = ls.length + 1 ∧ OutL h' n out (withoutL name (ls.take i)) ∧ ∃ x2 x3 x4 x7 x8 x9 x10 x11 x12 x13 x14 x15 x16 x17 x18 x19 x20 x21 x22 x23 x24 x25 x26 x27, vs = [.slice a ls.length cp, .string name, x2, x3, x4, out, .int .i64 (i : Nat), x7, x8, x9, x10, x11, x12, x13, x14, x15, x16, x17, x18, x19, x20, x21, x22, x23, x24, x25, x26, x27]) (ls.length + 1) ⟨Heap.sub_refl _, Nat.le_refl _, 0, .slice none 0 0, rfl, ⟨fun _ => rfl, fun q => (q rfl).elim⟩, _, _, _, _, _, _, _, _, _, _, _, _, _, _, _, _, _, _, _, _, _, _, _, _, rfl⟩ ?_
  rintro d vs h' n' ⟨hsub, hn, i, out, hdi, hout, x2, x3, x4, x7, x8, x9, x10, x11, x12, x13, x14, x15, x16, x17, x18, x19, x20, x21, x22, x23, x24, x25, x26, x27, rfl⟩
  refine AWp.fresh fun hfr' => ?_
  have hl' := hl.sub hsub
  refine AWp.seq ?_
  refine AWp.seq ?_
  refine AWp.seq_region (l := _) pok ?_
  refine seqV.calm [_, _, _, _, _, _, _, _, _, _, _, _, _, _, _, _, _, _, _, _, _, _, _, _, _, _, _, _] (v := .int _ _) rfl rfl rfl rfl ?_
  refine seqV.calm [_, _, _, _, _, _, _, _, _, _, _, _, _, _, _, _, _, _, _, _, _, _, _, _, _, _, _, _] (v := .slice _ _ _) rfl rfl rfl rfl ?_
  refine seqV.calm [_, _, _, _, _, _, _, _, _, _, _, _, _, _, _, _, _, _, _, _, _, _, _, _, _, _, _, _] (v := .int _ _) rfl rfl rfl rfl ?_
  refine seqV.calm [_, _, _, _, _, _, _, _, _, _, _, _, _, _, _, _, _, _, _, _, _, _, _, _, _, _, _, _] (v := .bool _) rfl rfl rfl rfl ?_
  refine seqV.nil ?_
  refine AWp.testV rfl rfl ?_ ?_
  · intro hc
    have hlt : (i : Int) < ls.length := by simpa using hc
    clear hc
    obtain ⟨x, hx⟩ : ∃ x, ls[i]? = some x := ⟨ls[i]'(by omega), List.getElem?_eq_getElem _⟩
    obtain ⟨b, o, cs, own, ci, q1, q2, q3, q4⟩ := hl'.at hx
    have hsn := without_snoc (name := name) hx
    have hfl : (withoutL name (ls.take i)).length ≤ ls.length := Nat.le_trans (List.length_filter_le _ _) (by rw [List.length_take]; omega)
    refine AWp.skip ?_
    refine AWp.seq ?_
    refine AWp.block ?_
    refine AWp.seq ?_
    refine AWp.seq_region (l := _) pok ?_
    refine seqV.calm [_, _, _, _, _, _, _, _, _, _, _, _, _, _, _, _, _, _, _, _, _, _, _, _, _, _, _, _] (v := .slice _ _ _) rfl rfl rfl rfl ?_
    refine seqV.calm [_, _, _, _, _, _, _, _, _, _, _, _, _, _, _, _, _, _, _, _, _, _, _, _, _, _, _, _] (v := .int _ _) rfl rfl rfl rfl ?_
    refine seqV.index [_, _, _, _, _, _, _, _, _, _, _, _, _, _, _, _, _, _, _, _, _, _, _, _, _, _, _, _] rfl rfl rfl rfl q1 rfl ?_
    refine seqV.field [_, _, _, _, _, _, _, _, _, _, _, _, _, _, _, _, _, _, _, _, _, _, _, _, _, _, _, _] (off := 0) (by kernel_rfl) rfl rfl rfl ?_
    refine seqV.load [_, _, _, _, _, _, _, _, _, _, _, _, _, _, _, _, _, _, _, _, _, _, _, _, _, _, _, _] (by kernel_rfl) (by kernel_rfl) rfl rfl q2 q3 rfl ?_
    refine seqV.calm [_, _, _, _, _, _, _, _, _, _, _, _, _, _, _, _, _, _, _, _, _, _, _, _, _, _, _, _] (v := .string _) rfl rfl rfl rfl ?_
    by_cases he : eqS x.1 name = true
    · refine seqV.calm [_, _, _, _, _, _, _, _, _, _, _, _, _, _, _, _, _, _, _, _, _, _, _, _, _, _, _, _] (v := .bool false) rfl rfl (by show some (Value.bool (!eqS x.1 name)) = _; rw [he]; rfl) rfl ?_
      refine seqV.nil ?_
      refine AWp.testV rfl rfl (fun hc => by cases hc) ?_
      intro hc
      refine AWp.skip ?_
      refine AWp.seq_region (l := _) pok ?_
      refine seqV.calm [_, _, _, _, _, _, _, _, _, _, _, _, _, _, _, _, _, _, _, _, _, _, _, _, _, _, _, _] (v := .int _ _) rfl rfl rfl rfl ?_
      refine seqV.calm [_, _, _, _, _, _, _, _, _, _, _, _, _, _, _, _, _, _, _, _, _, _, _, _, _, _, _, _] (v := .int .i64 ((i : Int) + 1)) rfl rfl (by show some (Value.int .i64 (IntKind.wrap .i64 ((i : Int) + 1))) = _; rw [wrap64_in (by omega) (by omega)]) rfl ?_
      refine seqV.calm [_, _, _, _, _, _, _, _, _, _, _, _, _, _, _, _, _, _, _, _, _, _, _, _, _, _, _, _] (v := .int .i64 ((i + 1 : Nat) : Int)) rfl rfl rfl rfl ?_
      refine seqV.nil ?_
      refine ⟨_, d - 1, rfl, by omega, hsub, hn, i + 1, out, by omega, ?_, _, _, _, _, _, _, _, _, _, _, _, _, _, _, _, _, _, _, _, _, _, _, _, _, rfl⟩
      rw [hsn, if_pos he]
      exact hout
    · have he : eqS x.1 name = false := by simpa using he
      rw [if_neg (by rw [he]; decide)] at hsn
      refine seqV.calm [_, _, _, _, _, _, _, _, _, _, _, _, _, _, _, _, _, _, _, _, _, _, _, _, _, _, _, _] (v := .bool true) rfl rfl (by show some (Value.bool (!eqS x.1 name)) = _; rw [he]; rfl) rfl ?_
      refine seqV.nil ?_
      refine AWp.testV rfl rfl ?_ (fun hc => by cases hc)
      intro hc
      refine AWp.seq_region (l := _) pok ?_
      refine seqV.calm [_, _, _, _, _, _, _, _, _, _, _, _, _, _, _, _, _, _, _, _, _, _, _, _, _, _, _, _] (v := out) rfl rfl rfl rfl ?_
      refine seqV.calm [_, _, _, _, _, _, _, _, _, _, _, _, _, _, _, _, _, _, _, _, _, _, _, _, _, _, _, _] (v := .slice _ _ _) rfl rfl rfl rfl ?_
      refine seqV.calm [_, _, _, _, _, _, _, _, _, _, _, _, _, _, _, _, _, _, _, _, _, _, _, _, _, _, _, _] (v := .int _ _) rfl rfl rfl rfl ?_
      refine seqV.index [_, _, _, _, _, _, _, _, _, _, _, _, _, _, _, _, _, _, _, _, _, _, _, _, _, _, _, _] rfl rfl rfl rfl q1 rfl ?_
      refine seqV.loadA [_, _, _, _, _, _, _, _, _, _, _, _, _, _, _, _, _, _, _, _, _, _, _, _, _, _, _, _] (by kernel_rfl) (by kernel_rfl) rfl rfl (rowE_two q2 q3 q4) rfl ?_
      refine seqV.act [_, _, _, _, _, _, _, _, _, _, _, _, _, _, _, _, _, _, _, _, _, _, _, _, _, _, _, _] rfl rfl rfl (build1 _ _ _ _) rfl ?_
      have hone : IsLab (h'.set n' (.cells [.string x.1, .string x.2] true ⟨40, 0, true⟩)) (.slice (some ⟨n', 0, none⟩) 1 1) [x] := IsLab.of_cells (ls := [x]) (Trie.get_set_same _ _ _)
      by_cases hnil : withoutL name (ls.take i) = []
      · have eo := hout.1 hnil
        subst eo
        refine seqV.act [_, _, _, _, _, _, _, _, _, _, _, _, _, _, _, _, _, _, _, _, _, _, _, _, _, _, _, _] rfl rfl rfl (append_nil hone (by simp) (by simp)) rfl ?_
        refine seqV.calm [_, _, _, _, _, _, _, _, _, _, _, _, _, _, _, _, _, _, _, _, _, _, _, _, _, _, _, _] (v := .slice _ _ _) rfl rfl rfl rfl ?_
        refine seqV.nil ?_
        refine AWp.seq_region (l := _) pok ?_
        refine seqV.calm [_, _, _, _, _, _, _, _, _, _, _, _, _, _, _, _, _, _, _, _, _, _, _, _, _, _, _, _] (v := .int _ _) rfl rfl rfl rfl ?_
        refine seqV.calm [_, _, _, _, _, _, _, _, _, _, _, _, _, _, _, _, _, _, _, _, _, _, _, _, _, _, _, _] (v := .int .i64 ((i : Int) + 1)) rfl rfl (by show some (Value.int .i64 (IntKind.wrap .i64 ((i : Int) + 1))) = _; rw [wrap64_in (by omega) (by omega)]) rfl ?_
        refine seqV.calm [_, _, _, _, _, _, _, _, _, _, _, _, _, _, _, _, _, _, _, _, _, _, _, _, _, _, _, _] (v := .int .i64 ((i + 1 : Nat) : Int)) rfl rfl rfl rfl ?_
        refine seqV.nil ?_
        refine ⟨_, d - 1, rfl, by omega, sub_far (sub_far hsub hfr hn) hfr (by omega), by omega, i + 1, _, by omega, ?_, _, _, _, _, _, _, _, _, _, _, _, _, _, _, _, _, _, _, _, _, _, _, _, _, rfl⟩
        rw [hsn, hnil]
        exact ⟨(fun q => by cases q), fun _ => ⟨n' + 1, rfl, by omega, Trie.get_set_same _ _ _⟩⟩
      · obtain ⟨c, eo, hcn, hcg⟩ := hout.2 hnil
        subst eo
        have hcn' : c ≠ n' := by
          rintro rfl
          rw [hfr' _ (Nat.le_refl _)] at hcg
          cases hcg
        refine seqV.act [_, _, _, _, _, _, _, _, _, _, _, _, _, _, _, _, _, _, _, _, _, _, _, _, _, _, _, _] rfl rfl rfl (append_more (by rw [Trie.get_set_ne _ _ hcn']; exact hcg) hone (by simp) (by simp) (by omega)) rfl ?_
        refine seqV.calm [_, _, _, _, _, _, _, _, _, _, _, _, _, _, _, _, _, _, _, _, _, _, _, _, _, _, _, _] (v := .slice _ _ _) rfl rfl rfl rfl ?_
        refine seqV.nil ?_
        refine AWp.seq_region (l := _) pok ?_
        refine seqV.calm [_, _, _, _, _, _, _, _, _, _, _, _, _, _, _, _, _, _, _, _, _, _, _, _, _, _, _, _] (v := .int _ _) rfl rfl rfl rfl ?_
        refine seqV.calm [_, _, _, _, _, _, _, _, _, _, _, _, _, _, _, _, _, _, _, _, _, _, _, _, _, _, _, _] (v := .int .i64 ((i : Int) + 1)) rfl rfl (by show some (Value.int .i64 (IntKind.wrap .i64 ((i : Int) + 1))) = _; rw [wrap64_in (by omega) (by omega)]) rfl ?_
        refine seqV.calm [_, _, _, _, _, _, _, _, _, _, _, _, _, _, _, _, _, _, _, _, _, _, _, _, _, _, _, _] (v := .int .i64 ((i + 1 : Nat) : Int)) rfl rfl rfl rfl ?_
        refine seqV.nil ?_
        refine ⟨_, d - 1, rfl, by omega, sub_far (sub_del (sub_far hsub hfr hn) hfr hcn) hfr (by omega), by omega, i + 1, _, by omega, ?_, _, _, _, _, _, _, _, _, _, _, _, _, _, _, _, _, _, _, _, _, _, _, _, _, rfl⟩
        rw [hsn]
        exact ⟨(fun q => by simp at q), fun _ => ⟨n' + 1, rfl, by omega, Trie.get_set_same _ _ _⟩⟩
  · intro hc
    have hge : ¬ (i : Int) < ls.length := by simpa using hc
    rw [List.take_of_length_le (by omega)] at hout
    refine AWp.exit ?_
    refine AWp.seq ?_
    refine AWp.seq_region (l := _) pok ?_
    refine seqV.calm [_, _, _, _, _, _, _, _, _, _, _, _, _, _, _, _, _, _, _, _, _, _, _, _, _, _, _, _] (v := out) rfl rfl rfl rfl ?_
    refine seqV.calm [_, _, _, _, _, _, _, _, _, _, _, _, _, _, _, _, _, _, _, _, _, _, _, _, _, _, _, _] (v := out) rfl rfl rfl rfl ?_
    refine seqV.nil ?_
    refine AWp.ret ?_
    refine ⟨rfl, _, rfl, out, rfl, hsub, ?_, ?_⟩
    · by_cases hnil : withoutL name ls = []
      · rw [hnil, hout.1 hnil]; exact .nil
      · obtain ⟨c, eo, hcn, hcg⟩ := hout.2 hnil
        rw [eo]
        exact IsLab.of_cells hcg
    · intro hnil
      obtain ⟨c, eo, hcn, hcg⟩ := hout.2 hnil
      exact ⟨c, _, eo, hcn, hcg⟩
end Go.Proofs.YtkpjfibpaojelaaGreatDoor
