/- DeleteFunc: labels in new memory, but those of which a function says so. -/
import Derived.Test.YtkpjfibpaojelaaGreatDoorLabDel0
namespace Go.Proofs.YtkpjfibpaojelaaGreatDoor
open Go Go.Abs
set_option maxRecDepth 100000
set_option maxHeartbeats 2000000

theorem alloc40 (h : Heap) (n : Nat) : allocE Tryz.prog 40 h n = some (.val (.pointer (some ⟨n, 0, none⟩)), h.set n (.cells [.string ⟨#[]⟩, .string ⟨#[]⟩] true ⟨40, 0, true⟩), n + 1) := by kernel_rfl

def notL (p : Lab → Bool) (ls : List Lab) : List Lab := ls.filter fun x => !p x

theorem not_snoc {ls : List Lab} {p : Lab → Bool} {i : Nat} {x : Lab} (hx : ls[i]? = some x) : notL p (ls.take (i + 1)) = if p x then notL p (ls.take i) else notL p (ls.take i) ++ [x] := by
  unfold notL
  rw [take_snoc hx, List.filter_append]
  cases he : p x <;> simp [he]

theorem idx_first {p : Lab → Bool} {ls : List Lab} (h : idxL p ls ≠ -1) : ∃ i x, idxL p ls = (i : Nat) ∧ ls[i]? = some x ∧ p x = true ∧ notL p (ls.take (i + 1)) = ls.take i := by
  unfold idxL at *
  cases hf : ls.findIdx? p with
  | none => rw [hf] at h; exact (h rfl).elim
  | some i =>
    obtain ⟨hi, hx, hno⟩ := List.findIdx?_eq_some_iff_getElem.1 hf
    refine ⟨i, ls[i], rfl, List.getElem?_eq_getElem hi, hx, ?_⟩
    rw [not_snoc (List.getElem?_eq_getElem hi), if_pos hx]
    unfold notL
    rw [List.filter_eq_self]
    intro y hy
    obtain ⟨j, hj⟩ := List.mem_iff_getElem?.1 hy
    rw [List.getElem?_take] at hj
    split at hj
    · rename_i hlt
      obtain ⟨hjl, rfl⟩ := List.getElem?_eq_some_iff.1 hj
      have := hno j hlt
      simpa using this
    · cases hj

theorem idx_none {p : Lab → Bool} {ls : List Lab} (h : idxL p ls = -1) : notL p ls = ls := by
  unfold idxL at h
  cases hf : ls.findIdx? p with
  | some i => rw [hf] at h; simp at h
  | none =>
    rw [List.findIdx?_eq_none_iff] at hf
    unfold notL
    rw [List.filter_eq_self]
    intro y hy
    simp [hf y hy]

theorem f51_spec {h h1 : Heap} {n0 n : Nat} {v : Value} {ls : List Lab} {kf : FuncId} {cap : Array Value} {p : Lab → Bool} (hfr : ∀ b, n0 ≤ b → h.get b = none) (hn0 : n0 ≤ n) (hf : Fresh h h1 n0 v ls) (hlen : ls.length < 100000)
    (hkf : ((Tryz.prog.funcs[kf]?).bind (·.body)).isSome = true)
    (hp : ∀ (h2 : Heap) (x : Lab) (m : Nat), h.sub h2 → ACall Tryz.prog kf (#[].toList ++ [Value.agg #[.string x.1, .string x.2]] ++ cap.toList).toArray h2 m fun r h' n' => r = .ret (.bool (p x)) ∧ h' = h2 ∧ m ≤ n') :
    ACall Tryz.prog 51 #[v, .func (.func kf) #[] cap] h1 n fun r h' _ => ∃ v, r = .ret v ∧ Fresh h h' n0 v (notL p ls) := by
  refine ACall.fresh fun hfr1 => ?_
  obtain ⟨a, cp, rfl⟩ := hf.lab.slice
  refine ACall.of_bodyV (args := [.slice a ls.length cp, .func (.func kf) #[] cap]) Tryz.func51 rfl rfl ?_
  refine AWp.seq ?_
  refine AWp.seq_region (l := _) pok ?_
  refine seqV.calm [_, _, _, _, _, _, _, _, _, _, _, _, _, _, _, _, _, _, _, _, _, _, _, _, _, _, _, _, _, _, _, _, _, _, _, _, _, _, _, _, _, _] (v := .slice _ _ _) rfl rfl rfl rfl ?_
  refine seqV.nil ?_
  refine AWp.seq ?_
  refine AWp.seq_region (l := _) pok ?_
  refine seqV.calm [_, _, _, _, _, _, _, _, _, _, _, _, _, _, _, _, _, _, _, _, _, _, _, _, _, _, _, _, _, _, _, _, _, _, _, _, _, _, _, _, _, _] (v := .slice _ _ _) rfl rfl rfl rfl ?_
  refine seqV.calm [_, _, _, _, _, _, _, _, _, _, _, _, _, _, _, _, _, _, _, _, _, _, _, _, _, _, _, _, _, _, _, _, _, _, _, _, _, _, _, _, _, _] (v := .func _ _ _) rfl rfl rfl rfl ?_
  refine seqV.callF _ (xs := _) rfl rfl (by kernel_rfl) rfl (fun _ => rfl) (ACall.ex (f49_spec (p := p) hf.lab (by omega) hkf fun x m _ => hp h1 x m hf.sub)) ?_
  rintro v h1' n1 ⟨rfl, rfl, hn⟩
  refine seqV.norm [_, _, _, _, _, _, _, _, _, _, _, _, _, _, _, _, _, _, _, _, _, _, _, _, _, _, _, _, _, _, _, _, _, _, _, _, _, _, _, _, _, _] rfl ?_
  refine seqV.calm [_, _, _, _, _, _, _, _, _, _, _, _, _, _, _, _, _, _, _, _, _, _, _, _, _, _, _, _, _, _, _, _, _, _, _, _, _, _, _, _, _, _] (v := .int _ _) rfl rfl rfl rfl ?_
  refine seqV.nil ?_
  refine AWp.seq ?_
  refine AWp.seq ?_
  refine AWp.seq_region (l := _) pok ?_
  refine seqV.calm [_, _, _, _, _, _, _, _, _, _, _, _, _, _, _, _, _, _, _, _, _, _, _, _, _, _, _, _, _, _, _, _, _, _, _, _, _, _, _, _, _, _] (v := .int _ _) rfl rfl rfl rfl ?_
  refine seqV.calm [_, _, _, _, _, _, _, _, _, _, _, _, _, _, _, _, _, _, _, _, _, _, _, _, _, _, _, _, _, _, _, _, _, _, _, _, _, _, _, _, _, _] (v := .bool (decide (idxL p ls = -1))) rfl rfl rfl rfl ?_
  refine seqV.nil ?_
  refine AWp.testV rfl rfl ?_ ?_
  · intro hc
    have hno := idx_none (by simpa using hc)
    refine AWp.seq ?_
    refine AWp.seq_region (l := _) pok ?_
    refine seqV.calm [_, _, _, _, _, _, _, _, _, _, _, _, _, _, _, _, _, _, _, _, _, _, _, _, _, _, _, _, _, _, _, _, _, _, _, _, _, _, _, _, _, _] (v := .slice _ _ _) rfl rfl rfl rfl ?_
    refine seqV.calm [_, _, _, _, _, _, _, _, _, _, _, _, _, _, _, _, _, _, _, _, _, _, _, _, _, _, _, _, _, _, _, _, _, _, _, _, _, _, _, _, _, _] (v := .slice _ _ _) rfl rfl rfl rfl ?_
    refine seqV.nil ?_
    refine AWp.ret ?_
    refine ⟨rfl, _, rfl, _, rfl, ?_⟩
    rw [hno]
    exact hf
  · intro hc
    obtain ⟨i, x0, hi, hx0, hpx0, hfi⟩ := idx_first (p := p) (ls := ls) (by simpa using hc)
    clear hc
    have hil := (List.getElem?_eq_some_iff.1 hx0).1
    have hne : ls ≠ [] := by rintro rfl; simp at hil
    obtain ⟨b, cs0, e, hb, hg0⟩ := hf.own hne
    cases e
    obtain ⟨cs1, own1, ci1, hg1, hrow, hle⟩ := hf.lab.inv b 0 _ _ rfl
    rw [hg0] at hg1
    cases hg1
    rw [List.drop_zero] at hrow
    have hrow0 : Row cs0 ls := ⟨hrow, by omega⟩
    rw [hi]
    refine AWp.skip ?_
    refine AWp.seq ?_
    refine AWp.seq ?_
    refine AWp.seq_region (l := _) pok ?_
    refine seqV.calm [_, _, _, _, _, _, _, _, _, _, _, _, _, _, _, _, _, _, _, _, _, _, _, _, _, _, _, _, _, _, _, _, _, _, _, _, _, _, _, _, _, _] (v := .int _ _) rfl rfl rfl rfl ?_
    refine seqV.calm [_, _, _, _, _, _, _, _, _, _, _, _, _, _, _, _, _, _, _, _, _, _, _, _, _, _, _, _, _, _, _, _, _, _, _, _, _, _, _, _, _, _] (v := .int .i64 ((i : Int) + 1)) rfl rfl (by show some (Value.int .i64 (IntKind.wrap .i64 ((i : Int) + 1))) = _; rw [wrap64_in (by omega) (by omega)]) rfl ?_
    refine seqV.calm [_, _, _, _, _, _, _, _, _, _, _, _, _, _, _, _, _, _, _, _, _, _, _, _, _, _, _, _, _, _, _, _, _, _, _, _, _, _, _, _, _, _] (v := .int .i64 ((i + 1 : Nat) : Int)) rfl rfl rfl rfl ?_
    refine seqV.nil ?_
    refine AWp.block ?_
    refine AWp.loopV (fun d vs h' n' => h.sub h' ∧ n0 ≤ n' ∧ ∃ (k j : Nat) (cs : List Value) (rs : List Lab), d + j = ls.length + 1 ∧ k < j ∧ j ≤ ls.length ∧ h'.get b = some (.cells cs true ⟨40, 2, false⟩) ∧ Row cs rs ∧ rs.length = ls.length ∧ rs.take k = notL p (ls.take j) ∧ rs.drop j = ls.drop j ∧ ∃ x2 x3 x4 x7 x8 x9 x10 x11 x12 x13 x14 x15 x16 x17 x18 x19 x20 x21 x22 x23 x24 x25 x26 x27 x28 x29 x30 x31 x32 x33 x34 x35 x36 x37 x38 x39 x40 x41, vs = [.slice (some ⟨b, 0, none⟩) ls.length U, .func (.func kf) #[] cap, x2, x3, x4, .int .i64 (k : Nat), .int .i64 (j : Nat), x7, x8, x9, x10, x11, x12, x13, x14, x15, x16, x17, x18, x19, x20, x21, x22, x23, x24, x25, x26, x27, x28, x29, x30, x31, x32, x33, x34, x35, x36, x37, x38, x39, x40, x41])
      (ls.length - i) ⟨hf.sub, by omega, i, i + 1, cs0, ls, by omega, by omega, by omega, hg0, hrow0, rfl, hfi.symm, rfl, _, _, _, _, _, _, _, _, _, _, _, _, _, _, _, _, _, _, _, _, _, _, _, _, _, _, _, _, _, _, _, _, _, _, _, _, _, _, rfl⟩ ?_
    rintro d vs h' n' ⟨hsub, hn', k, j, cs, rs, hdj, hkj, hjl, hg, hr, hrl, htk, hdr, x2, x3, x4, x7, x8, x9, x10, x11, x12, x13, x14, x15, x16, x17, x18, x19, x20, x21, x22, x23, x24, x25, x26, x27, x28, x29, x30, x31, x32, x33, x34, x35, x36, x37, x38, x39, x40, x41, rfl⟩
    refine AWp.fresh fun hfr' => ?_
    have hbn : b ≠ n' := by
      rintro rfl
      rw [hfr' _ (Nat.le_refl _)] at hg
      cases hg
    refine AWp.seq ?_
    refine AWp.seq ?_
    refine AWp.seq_region (l := _) pok ?_
    refine seqV.calm [_, _, _, _, _, _, _, _, _, _, _, _, _, _, _, _, _, _, _, _, _, _, _, _, _, _, _, _, _, _, _, _, _, _, _, _, _, _, _, _, _, _] (v := .int _ _) rfl rfl rfl rfl ?_
    refine seqV.calm [_, _, _, _, _, _, _, _, _, _, _, _, _, _, _, _, _, _, _, _, _, _, _, _, _, _, _, _, _, _, _, _, _, _, _, _, _, _, _, _, _, _] (v := .slice _ _ _) rfl rfl rfl rfl ?_
    refine seqV.calm [_, _, _, _, _, _, _, _, _, _, _, _, _, _, _, _, _, _, _, _, _, _, _, _, _, _, _, _, _, _, _, _, _, _, _, _, _, _, _, _, _, _] (v := .int _ _) rfl rfl rfl rfl ?_
    refine seqV.calm [_, _, _, _, _, _, _, _, _, _, _, _, _, _, _, _, _, _, _, _, _, _, _, _, _, _, _, _, _, _, _, _, _, _, _, _, _, _, _, _, _, _] (v := .bool _) rfl rfl rfl rfl ?_
    refine seqV.nil ?_
    refine AWp.testV rfl rfl ?_ ?_
    · intro hc
      have hlt : (j : Int) < ls.length := by simpa using hc
      clear hc
      obtain ⟨x, hx⟩ : ∃ x, ls[j]? = some x := ⟨ls[j]'(by omega), List.getElem?_eq_getElem _⟩
      have hxr : rs[j]? = some x := by
        have := congrArg (·[0]?) hdr
        simpa [hx] using this
      obtain ⟨e1, e2⟩ := hr.at hxr
      have hsn := not_snoc (p := p) hx
      have hdr1 : rs.drop (j + 1) = ls.drop (j + 1) := by
        have := congrArg (List.drop 1) hdr
        simpa [List.drop_drop, Nat.add_comm] using this
      refine AWp.skip ?_
      refine AWp.seq ?_
      refine AWp.block ?_
      refine AWp.seq ?_
      refine AWp.seq_region (l := _) pok ?_
      refine seqV.calm [_, _, _, _, _, _, _, _, _, _, _, _, _, _, _, _, _, _, _, _, _, _, _, _, _, _, _, _, _, _, _, _, _, _, _, _, _, _, _, _, _, _] (v := .slice _ _ _) rfl rfl rfl rfl ?_
      refine seqV.calm [_, _, _, _, _, _, _, _, _, _, _, _, _, _, _, _, _, _, _, _, _, _, _, _, _, _, _, _, _, _, _, _, _, _, _, _, _, _, _, _, _, _] (v := .int _ _) rfl rfl rfl rfl ?_
      refine seqV.index [_, _, _, _, _, _, _, _, _, _, _, _, _, _, _, _, _, _, _, _, _, _, _, _, _, _, _, _, _, _, _, _, _, _, _, _, _, _, _, _, _, _] rfl rfl rfl rfl (index_raw (show j < ls.length by omega)) rfl ?_
      refine seqV.loadA [_, _, _, _, _, _, _, _, _, _, _, _, _, _, _, _, _, _, _, _, _, _, _, _, _, _, _, _, _, _, _, _, _, _, _, _, _, _, _, _, _, _] (by kernel_rfl) (by kernel_rfl) rfl rfl (rowE_two hg (by rw [Nat.zero_add, Nat.mul_comm]; exact e1) (by rw [Nat.zero_add, Nat.mul_comm]; exact e2)) rfl ?_
      refine seqV.act [_, _, _, _, _, _, _, _, _, _, _, _, _, _, _, _, _, _, _, _, _, _, _, _, _, _, _, _, _, _, _, _, _, _, _, _, _, _, _, _, _, _] rfl rfl rfl (alloc40 _ _) rfl ?_
      refine seqV.store (k := 2) rfl (by kernel_rfl) rfl rfl rfl rfl rfl (Trie.get_set_same _ _ _) rfl rfl (by decide) ?_
      refine seqV.nil ?_
      have hs1 : h.sub ((h'.set n' (.cells [.string ⟨#[]⟩, .string ⟨#[]⟩] true ⟨40, 0, true⟩)).set n' (.cells [.string x.1, .string x.2] true ⟨40, 0, true⟩)) := sub_far (sub_far hsub hfr hn') hfr hn'
      have hg1 : ((h'.set n' (.cells [.string ⟨#[]⟩, .string ⟨#[]⟩] true ⟨40, 0, true⟩)).set n' (.cells [.string x.1, .string x.2] true ⟨40, 0, true⟩)).get b = some (.cells cs true ⟨40, 2, false⟩) := by
        rw [Trie.get_set_ne _ _ hbn, Trie.get_set_ne _ _ hbn]; exact hg
      refine AWp.seq ?_
      refine AWp.seq_region (l := _) pok ?_
      refine seqV.calm [_, _, _, _, _, _, _, _, _, _, _, _, _, _, _, _, _, _, _, _, _, _, _, _, _, _, _, _, _, _, _, _, _, _, _, _, _, _, _, _, _, _] (v := .func _ _ _) rfl rfl rfl rfl ?_
      refine seqV.loadA [_, _, _, _, _, _, _, _, _, _, _, _, _, _, _, _, _, _, _, _, _, _, _, _, _, _, _, _, _, _, _, _, _, _, _, _, _, _, _, _, _, _] (by kernel_rfl) (by kernel_rfl) rfl rfl (rowE_two (Trie.get_set_same _ _ _) rfl rfl) rfl ?_
      refine seqV.callV _ (xs := _) rfl rfl rfl hkf rfl rfl (fun _ => rfl) (ACall.ex (hp _ x _ hs1)) ?_
      rintro v h2 n2 ⟨rfl, rfl, hn2⟩
      refine seqV.norm [_, _, _, _, _, _, _, _, _, _, _, _, _, _, _, _, _, _, _, _, _, _, _, _, _, _, _, _, _, _, _, _, _, _, _, _, _, _, _, _, _, _] rfl ?_
      by_cases hpx : p x = true
      · rw [if_pos hpx] at hsn
        refine seqV.calm [_, _, _, _, _, _, _, _, _, _, _, _, _, _, _, _, _, _, _, _, _, _, _, _, _, _, _, _, _, _, _, _, _, _, _, _, _, _, _, _, _, _] (v := .bool false) rfl rfl (by show some (Value.bool (!p x)) = _; rw [hpx]; rfl) rfl ?_
        refine seqV.nil ?_
        refine AWp.testV rfl rfl (fun hc => by cases hc) ?_
        intro hc
        refine AWp.skip ?_
        refine AWp.seq_region (l := _) pok ?_
        refine seqV.calm [_, _, _, _, _, _, _, _, _, _, _, _, _, _, _, _, _, _, _, _, _, _, _, _, _, _, _, _, _, _, _, _, _, _, _, _, _, _, _, _, _, _] (v := .int _ _) rfl rfl rfl rfl ?_
        refine seqV.calm [_, _, _, _, _, _, _, _, _, _, _, _, _, _, _, _, _, _, _, _, _, _, _, _, _, _, _, _, _, _, _, _, _, _, _, _, _, _, _, _, _, _] (v := .int .i64 ((j : Int) + 1)) rfl rfl (by show some (Value.int .i64 (IntKind.wrap .i64 ((j : Int) + 1))) = _; rw [wrap64_in (by omega) (by omega)]) rfl ?_
        refine seqV.calm [_, _, _, _, _, _, _, _, _, _, _, _, _, _, _, _, _, _, _, _, _, _, _, _, _, _, _, _, _, _, _, _, _, _, _, _, _, _, _, _, _, _] (v := .int .i64 ((j + 1 : Nat) : Int)) rfl rfl rfl rfl ?_
        refine seqV.nil ?_
        exact ⟨_, d - 1, rfl, by omega, hs1, by omega, k, j + 1, cs, rs, by omega, by omega, by omega, hg1, hr, hrl, by rw [hsn]; exact htk, hdr1, _, _, _, _, _, _, _, _, _, _, _, _, _, _, _, _, _, _, _, _, _, _, _, _, _, _, _, _, _, _, _, _, _, _, _, _, _, _, rfl⟩
      · have hpx : p x = false := by simpa using hpx
        rw [hpx, if_neg (by decide)] at hsn
        refine seqV.calm [_, _, _, _, _, _, _, _, _, _, _, _, _, _, _, _, _, _, _, _, _, _, _, _, _, _, _, _, _, _, _, _, _, _, _, _, _, _, _, _, _, _] (v := .bool true) rfl rfl (by show some (Value.bool (!p x)) = _; rw [hpx]; rfl) rfl ?_
        refine seqV.nil ?_
        refine AWp.testV rfl rfl ?_ (fun hc => by cases hc)
        intro hc
        refine AWp.seq ?_
        refine AWp.seq_region (l := _) pok ?_
        refine seqV.calm [_, _, _, _, _, _, _, _, _, _, _, _, _, _, _, _, _, _, _, _, _, _, _, _, _, _, _, _, _, _, _, _, _, _, _, _, _, _, _, _, _, _] (v := .slice _ _ _) rfl rfl rfl rfl ?_
        refine seqV.calm [_, _, _, _, _, _, _, _, _, _, _, _, _, _, _, _, _, _, _, _, _, _, _, _, _, _, _, _, _, _, _, _, _, _, _, _, _, _, _, _, _, _] (v := .int _ _) rfl rfl rfl rfl ?_
        refine seqV.loadA [_, _, _, _, _, _, _, _, _, _, _, _, _, _, _, _, _, _, _, _, _, _, _, _, _, _, _, _, _, _, _, _, _, _, _, _, _, _, _, _, _, _] (by kernel_rfl) (by kernel_rfl) rfl rfl (rowE_two (Trie.get_set_same _ _ _) rfl rfl) rfl ?_
        refine seqV.index [_, _, _, _, _, _, _, _, _, _, _, _, _, _, _, _, _, _, _, _, _, _, _, _, _, _, _, _, _, _, _, _, _, _, _, _, _, _, _, _, _, _] rfl rfl rfl rfl (index_raw (show k < ls.length by omega)) rfl ?_
        refine seqV.store (k := 2) rfl (by kernel_rfl) rfl rfl rfl rfl rfl hg1 rfl rfl (by have := hr.2; omega) ?_
        refine seqV.nil ?_
        refine AWp.seq_region (l := _) pok ?_
        refine seqV.calm [_, _, _, _, _, _, _, _, _, _, _, _, _, _, _, _, _, _, _, _, _, _, _, _, _, _, _, _, _, _, _, _, _, _, _, _, _, _, _, _, _, _] (v := .int _ _) rfl rfl rfl rfl ?_
        refine seqV.calm [_, _, _, _, _, _, _, _, _, _, _, _, _, _, _, _, _, _, _, _, _, _, _, _, _, _, _, _, _, _, _, _, _, _, _, _, _, _, _, _, _, _] (v := .int .i64 ((k : Int) + 1)) rfl rfl (by show some (Value.int .i64 (IntKind.wrap .i64 ((k : Int) + 1))) = _; rw [wrap64_in (by omega) (by omega)]) rfl ?_
        refine seqV.calm [_, _, _, _, _, _, _, _, _, _, _, _, _, _, _, _, _, _, _, _, _, _, _, _, _, _, _, _, _, _, _, _, _, _, _, _, _, _, _, _, _, _] (v := .int .i64 ((k + 1 : Nat) : Int)) rfl rfl rfl rfl ?_
        refine seqV.nil ?_
        refine AWp.seq_region (l := _) pok ?_
        refine seqV.calm [_, _, _, _, _, _, _, _, _, _, _, _, _, _, _, _, _, _, _, _, _, _, _, _, _, _, _, _, _, _, _, _, _, _, _, _, _, _, _, _, _, _] (v := .int _ _) rfl rfl rfl rfl ?_
        refine seqV.calm [_, _, _, _, _, _, _, _, _, _, _, _, _, _, _, _, _, _, _, _, _, _, _, _, _, _, _, _, _, _, _, _, _, _, _, _, _, _, _, _, _, _] (v := .int .i64 ((j : Int) + 1)) rfl rfl (by show some (Value.int .i64 (IntKind.wrap .i64 ((j : Int) + 1))) = _; rw [wrap64_in (by omega) (by omega)]) rfl ?_
        refine seqV.calm [_, _, _, _, _, _, _, _, _, _, _, _, _, _, _, _, _, _, _, _, _, _, _, _, _, _, _, _, _, _, _, _, _, _, _, _, _, _, _, _, _, _] (v := .int .i64 ((j + 1 : Nat) : Int)) rfl rfl rfl rfl ?_
        refine seqV.nil ?_
        refine ⟨_, d - 1, rfl, by omega, sub_far hs1 hfr hb, by omega, k + 1, j + 1, setAll cs (2 * k) [.string x.1, .string x.2], rs.set k x, by omega, by omega, by omega, ?_, hr.set x (by omega), by rw [List.length_set]; exact hrl, ?_, ?_, _, _, _, _, _, _, _, _, _, _, _, _, _, _, _, _, _, _, _, _, _, _, _, _, _, _, _, _, _, _, _, _, _, _, _, _, _, _, rfl⟩
        · rw [Trie.get_set_same, Nat.zero_add, Nat.mul_comm]
          rfl
        · rw [hsn, ← htk, take_snoc (show (rs.set k x)[k]? = some x from List.getElem?_set_self (by omega))]
          congr 1
          apply List.ext_getElem?
          intro m
          rw [List.getElem?_take, List.getElem?_take]
          by_cases hm : m < k
          · rw [if_pos hm, if_pos hm, List.getElem?_set_ne (by omega)]
          · rw [if_neg hm, if_neg hm]
        · rw [← hdr1]
          apply List.ext_getElem?
          intro m
          rw [List.getElem?_drop, List.getElem?_drop, List.getElem?_set_ne (by omega)]
    · intro hc
      have hge : ¬ (j : Int) < ls.length := by simpa using hc
      have htk : rs.take k = notL p ls := by rw [htk, List.take_of_length_le (show ls.length ≤ j by omega)]
      have hcl : 2 * k + 2 * (ls.length - k) ≤ cs.length := by have := hr.2; omega
      have hkl0 : k < ls.length := by omega
      refine AWp.exit ?_
      refine AWp.seq ?_
      refine AWp.seq_region (l := _) pok ?_
      obtain ⟨xs, hxl, hclr⟩ := clear_tail (n := n') (k := k) (m := ls.length - k) hg (by omega) hcl U
      refine seqV.calm [_, _, _, _, _, _, _, _, _, _, _, _, _, _, _, _, _, _, _, _, _, _, _, _, _, _, _, _, _, _, _, _, _, _, _, _, _, _, _, _, _, _] (v := .slice _ _ _) rfl rfl rfl rfl ?_
      refine seqV.calm [_, _, _, _, _, _, _, _, _, _, _, _, _, _, _, _, _, _, _, _, _, _, _, _, _, _, _, _, _, _, _, _, _, _, _, _, _, _, _, _, _, _] (v := .int _ _) rfl rfl rfl rfl ?_
      refine seqV.calm [_, _, _, _, _, _, _, _, _, _, _, _, _, _, _, _, _, _, _, _, _, _, _, _, _, _, _, _, _, _, _, _, _, _, _, _, _, _, _, _, _, _] (v := .slice _ _ _) rfl rfl (slice_from hg (by omega) (by omega)) rfl ?_
      refine seqV.act [_, _, _, _, _, _, _, _, _, _, _, _, _, _, _, _, _, _, _, _, _, _, _, _, _, _, _, _, _, _, _, _, _, _, _, _, _, _, _, _, _, _] (v := .tuple #[]) rfl rfl rfl hclr rfl ?_
      refine seqV.nil ?_
      refine AWp.seq ?_
      refine AWp.seq_region (l := _) pok ?_
      refine seqV.calm [_, _, _, _, _, _, _, _, _, _, _, _, _, _, _, _, _, _, _, _, _, _, _, _, _, _, _, _, _, _, _, _, _, _, _, _, _, _, _, _, _, _] (v := .slice _ _ _) rfl rfl rfl rfl ?_
      refine seqV.calm [_, _, _, _, _, _, _, _, _, _, _, _, _, _, _, _, _, _, _, _, _, _, _, _, _, _, _, _, _, _, _, _, _, _, _, _, _, _, _, _, _, _] (v := .int _ _) rfl rfl rfl rfl ?_
      refine seqV.calm [_, _, _, _, _, _, _, _, _, _, _, _, _, _, _, _, _, _, _, _, _, _, _, _, _, _, _, _, _, _, _, _, _, _, _, _, _, _, _, _, _, _] (v := .slice _ _ _) rfl rfl (slice_to (Trie.get_set_same _ _ _) (by omega) (by omega)) rfl ?_
      refine seqV.calm [_, _, _, _, _, _, _, _, _, _, _, _, _, _, _, _, _, _, _, _, _, _, _, _, _, _, _, _, _, _, _, _, _, _, _, _, _, _, _, _, _, _] (v := .slice _ _ _) rfl rfl rfl rfl ?_
      refine seqV.nil ?_
      refine AWp.ret ?_
      have hrt := hr.tail (k := k) (by omega) xs (by rw [hxl]; exact hcl)
      have hkl : (rs.take k).length = k := by rw [List.length_take]; omega
      refine ⟨rfl, _, rfl, .slice (some ⟨b, 0, none⟩) k U, rfl, sub_far hsub hfr hb, ?_, fun _ => ⟨b, _, ?_, hb, Trie.get_set_same _ _ _⟩⟩
      · rw [← htk]
        have := Row.lab (cap := U) (h := h'.set b (.cells (setAll cs (2 * k) xs) true ⟨40, 2, false⟩)) (b := b) hrt (Trie.get_set_same _ _ _)
        rw [hkl] at this
        exact this
      · rw [← htk, hkl]
end Go.Proofs.YtkpjfibpaojelaaGreatDoor
