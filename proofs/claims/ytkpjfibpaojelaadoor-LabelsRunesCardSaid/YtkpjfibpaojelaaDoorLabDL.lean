/- LabelsRunes: the law. -/
import Derived.Test.YtkpjfibpaojelaaDoorLabDV
import Derived.Test.YtkpjfibpaojelaaDoorLabD2
namespace Go.Proofs.YtkpjfibpaojelaaDoor
open Go Go.Abs
set_option maxRecDepth 100000
set_option maxHeartbeats 4000000

theorem f4_spec {h : Heap} {n : Nat} (hl : Laid0 h) : Tells Tryd.prog 4 [] h n (.bool true) := by
  obtain ⟨c, hs⟩ := hl
  have := ACall.frame (P := Tryd.prog) (n := n) (laidHeap_ro c laidL_lt) hs (args := []) rfl (v := .bool true) rfl ((tabA_ok _ (List.mem_singleton.2 rfl)).2.2 c)
  exact this.mono fun _ h' _ hn _ ⟨a, b, _⟩ => ⟨h', Heap.sub_refl _, a, b, hn⟩
theorem f5_at {h : Heap} {n : Nat} {s : ByteArray} {b : Bool} (e : mayValueB s = b) (hl : Laid0 h) (hlen : s.data.toList.length < 9223372036854775808) : Tells Tryd.prog 5 [.string s] h n (.bool b) := by
  rw [← e]; exact f5_spec s hl hlen
theorem add_data (a b : ByteArray) : (a ++ b).data.toList = a.data.toList ++ b.data.toList := by
  rw [ByteArray.data_append, Array.toList_append]
theorem starts_le (l : List UInt8) : startsN l ≤ l.length := List.countP_le_length
theorem rem_u64 {a b k : Int} (h0 : 0 ≤ a) (hb : 0 < b) (h : a % b = k) : (if b = 0 then none else some (Value.int .u64 (a.tmod b))) = some (.int .u64 k) := by
  rw [if_neg (by omega), Int.tmod_eq_emod_of_nonneg h0, h]
theorem wrap_nn (z : Int) : 0 ≤ IntKind.u64.wrap z := by
  simp only [IntKind.wrap, IntKind.bits, IntKind.signed]
  exact Int.emod_nonneg _ (by decide)
theorem mv_add {a b : ByteArray} (ha : mayValueB a = true) (hb : mayValueB b = true) : mayValueB (a ++ b) = decide ((startsN a.data.toList : Int) + (startsN b.data.toList : Int) ≤ 64) := by
  unfold mayValueB at *
  rw [add_data, mayV_append ha hb]
  exact decide_eq_decide.2 (by omega)
theorem mv_take {a : ByteArray} (ha : mayValueB a = true) {k : Int} (h0 : 0 ≤ k) (h1 : k < (a.data.toList.length : Nat)) : mayValueB (sub a 0 k) = (decide (0 < k) && !decide (128 ≤ bt a k ∧ bt a k < 192)) := by
  unfold mayValueB at *
  have e : (sub a 0 k).data.toList = a.data.toList.take k.toNat := by simp [sub, sliceS]
  rw [e, mayV_take ha (by omega), contB_bt]
  congr 1
  exact decide_eq_decide.2 (by omega)
theorem mv_drop {a : ByteArray} (ha : mayValueB a = true) {k : Int} (h0 : 0 ≤ k) (h1 : k < (a.data.toList.length : Nat)) : mayValueB (sub a k (a.data.toList.length : Nat)) = !decide (128 ≤ bt a k ∧ bt a k < 192) := by
  unfold mayValueB at *
  have e : (sub a k (a.data.toList.length : Nat)).data.toList = a.data.toList.drop k.toNat := by
    simp only [sub, sliceS, Int.toNat_natCast]
    exact List.take_of_length_le (by rw [List.length_drop]; omega)
  rw [e, mayV_drop ha (by omega), contB_bt]
theorem mv_128 {a : ByteArray} (ha : mayValueB a = true) : mayValueB (a ++ ⟨#[128]⟩) = false := by
  unfold mayValueB at *
  rw [add_data]; exact mayV_128 ha
theorem mv_nl (a : ByteArray) : mayValueB (⟨#[10]⟩ ++ a) = false := by
  unfold mayValueB
  rw [add_data]; exact mayV_nl _
theorem add_lenD (a b : ByteArray) : (a ++ b).data.toList.length = a.data.toList.length + b.data.toList.length := by
  rw [add_data, List.length_append]
theorem sub_lenD (s : ByteArray) (l u : Int) : (sub s l u).data.toList.length ≤ s.data.toList.length := by
  simp only [sub, sliceS]
  rw [List.length_take, List.length_drop]
  omega


/-- baton/batonlaw05.LabelsRunes -/
theorem f3_spec {h : Heap} {n : Nat} (a b : ByteArray) (z : Int) (hld : Laid0 h) :
    Tells Tryd.prog 3 [.string (a), .string (b), .int .i64 (z)] h n (.bool true) := by
  refine Makes.tells (Makes.free fun hf => ?_)
  have hsa := starts_le a.data.toList
  have hsb := starts_le b.data.toList
  have hs : SubBut h h ([]) := .refl _ _
  have hn : n ≤ n := Nat.le_refl _
  have hf0 := hf
  refine Makes.of_bodyV (args := [.string (a), .string (b), .int .i64 (z)]) (vs := [.string (a), .string (b), .int .i64 (z), undef, undef, undef, undef, undef, undef, undef, undef, undef, undef, undef, undef, undef, undef, undef, undef, undef, undef, undef, undef, undef, undef, undef, undef, undef, undef, undef, undef, undef, undef, undef, undef, undef, undef, undef, undef, undef, undef, undef, undef, undef, undef, undef, undef, undef, undef, undef, undef, undef, undef, undef, undef, undef, undef, undef, undef, undef, undef, undef, undef, undef, undef, undef, undef, undef, undef, undef, undef, undef, undef, undef, undef, undef, undef, undef, undef, undef, undef, undef, undef, undef, undef, undef, undef, undef, undef]) Tryd.func3 rfl rfl ?_
  refine AWp.seq ?_
  refine AWp.rowV (l := _) pok ?_
  refine sq.c (v := .bool false) rfl rfl rfl rfl ?_
  refine sq.e ?_
  refine AWp.seq ?_
  refine AWp.seq ?_
  refine AWp.rowV (l := _) pok ?_
  refine sq.c (v := .string (a)) rfl rfl rfl rfl ?_
  refine sq.c (v := .int .i64 ((((a).data.toList.length : Nat) : Int))) rfl rfl (by kernel_rfl) rfl ?_
  refine sq.c (v := .bool (decide ((2000 : Int) < ((((a).data.toList.length : Nat) : Int))))) rfl rfl rfl rfl ?_
  refine sq.c (v := .bool (decide ((2000 : Int) < ((((a).data.toList.length : Nat) : Int))))) rfl rfl rfl rfl ?_
  by_cases c1_2 : (2000 : Int) < ((((a).data.toList.length : Nat) : Int))
  · rw [decide_eq_true c1_2]
    refine sq.s (wantF (g := 3) (d := 12) rfl rfl rfl) rfl ?_
    refine sq.s (wantF (g := 3) (d := 12) rfl rfl rfl) rfl ?_
    refine sq.s (wantF (g := 3) (d := 12) rfl rfl rfl) rfl ?_
    refine sq.c (v := .bool true) rfl rfl rfl rfl ?_
    refine sq.c (v := .bool true) rfl rfl rfl rfl ?_
    refine sq.s (wantF (g := 8) (d := 17) rfl rfl rfl) rfl ?_
    refine sq.s (wantF (g := 8) (d := 17) rfl rfl rfl) rfl ?_
    refine sq.c (v := .bool true) rfl rfl rfl rfl ?_
    refine sq.e ?_
    refine AWp.condT rfl rfl ?_
    refine AWp.seq ?_
    refine AWp.rowV (l := _) pok ?_
    refine sq.t (v := .bool true) rfl (CallsF.fn rfl (by kernel_rfl) rfl rfl) (fun hf => f4_spec (hld.keep hs)) hf rfl ?_
    intro n1 hn2 hf
    have hn := Nat.le_trans hn hn2
    refine sq.c (v := .bool true) rfl rfl rfl rfl ?_
    refine sq.e ?_
    refine AWp.ret ?_
    -- end 1: c1_2
    refine ⟨rfl, [.bool true], rfl, .bool true, rfl, hs, hn, ?_⟩
    rfl
  · rw [decide_eq_false c1_2]
    refine sq.c (v := .string (b)) (wantT (g := 3) (d := 12) rfl rfl rfl) rfl rfl rfl ?_
    refine sq.c (v := .int .i64 ((((b).data.toList.length : Nat) : Int))) (wantT (g := 3) (d := 12) rfl rfl rfl) rfl (by kernel_rfl) rfl ?_
    refine sq.c (v := .bool (decide ((2000 : Int) < ((((b).data.toList.length : Nat) : Int))))) (wantT (g := 3) (d := 12) rfl rfl rfl) rfl rfl rfl ?_
    refine sq.c (v := .bool (decide ((2000 : Int) < ((((b).data.toList.length : Nat) : Int))))) rfl rfl rfl rfl ?_
    refine sq.c (v := .bool (decide ((2000 : Int) < ((((b).data.toList.length : Nat) : Int))))) rfl rfl rfl rfl ?_
    by_cases c1_6 : (2000 : Int) < ((((b).data.toList.length : Nat) : Int))
    · rw [decide_eq_true c1_6]
      refine sq.s (wantF (g := 8) (d := 17) rfl rfl rfl) rfl ?_
      refine sq.s (wantF (g := 8) (d := 17) rfl rfl rfl) rfl ?_
      refine sq.c (v := .bool true) rfl rfl rfl rfl ?_
      refine sq.e ?_
      refine AWp.condT rfl rfl ?_
      refine AWp.seq ?_
      refine AWp.rowV (l := _) pok ?_
      refine sq.t (v := .bool true) rfl (CallsF.fn rfl (by kernel_rfl) rfl rfl) (fun hf => f4_spec (hld.keep hs)) hf rfl ?_
      intro n2 hn2 hf
      have hn := Nat.le_trans hn hn2
      refine sq.c (v := .bool true) rfl rfl rfl rfl ?_
      refine sq.e ?_
      refine AWp.ret ?_
      -- end 2: ¬c1_2 c1_6
      refine ⟨rfl, [.bool true], rfl, .bool true, rfl, hs, hn, ?_⟩
      rfl
    · rw [decide_eq_false c1_6]
      refine sq.t (v := .bool true) (wantT (g := 8) (d := 17) rfl rfl rfl) (CallsF.fn rfl (by kernel_rfl) rfl rfl) (fun hf => f4_spec (hld.keep hs)) hf rfl ?_
      intro n3 hn2 hf
      have hn := Nat.le_trans hn hn2
      refine sq.c (v := .bool false) (wantT (g := 8) (d := 17) rfl rfl rfl) rfl rfl rfl ?_
      refine sq.c (v := .bool false) rfl rfl rfl rfl ?_
      refine sq.e ?_
      refine AWp.condF rfl rfl ?_
      refine AWp.skip ?_
      refine AWp.seq ?_
      refine AWp.seq ?_
      refine AWp.rowV (l := _) pok ?_
      refine sq.c (v := .string (a)) rfl rfl rfl rfl ?_
      refine sq.t (v := .bool (mayValueB a)) rfl (CallsF.fn rfl (by kernel_rfl) rfl rfl) (fun hf => f5_at (rfl) (hld.keep hs) (by omega)) hf rfl ?_
      intro n4 hn2 hf
      have hn := Nat.le_trans hn hn2
      rcases Bool.eq_false_or_eq_true (mayValueB a) with c_a | c_a
      · rw [c_a]
        refine sq.c (v := .bool false) rfl rfl rfl rfl ?_
        refine sq.e ?_
        refine AWp.condF rfl rfl ?_
        refine AWp.skip ?_
        refine AWp.seq ?_
        refine AWp.seq ?_
        refine AWp.rowV (l := _) pok ?_
        refine sq.c (v := .string (b)) rfl rfl rfl rfl ?_
        refine sq.t (v := .bool (mayValueB b)) rfl (CallsF.fn rfl (by kernel_rfl) rfl rfl) (fun hf => f5_at (rfl) (hld.keep hs) (by omega)) hf rfl ?_
        intro n5 hn2 hf
        have hn := Nat.le_trans hn hn2
        refine sq.c (v := .bool (mayValueB b)) rfl rfl rfl rfl ?_
        rcases Bool.eq_false_or_eq_true (mayValueB b) with c_b | c_b
        · rw [c_b]
          refine sq.c (v := .string (a)) (wantT (g := 2) (d := 27) rfl rfl rfl) rfl rfl rfl ?_
          refine sq.c (v := .string (b)) (wantT (g := 2) (d := 27) rfl rfl rfl) rfl rfl rfl ?_
          refine sq.c (v := .string (a ++ b)) (wantT (g := 2) (d := 27) rfl rfl rfl) rfl (add_str (a := a) (b := b) (by omega)) rfl ?_
          refine sq.t (v := .bool (mayValueB (a ++ b))) (wantT (g := 2) (d := 27) rfl rfl rfl) (CallsF.fn rfl (by kernel_rfl) rfl rfl) (fun hf => f5_at (rfl) (hld.keep hs) (by rw [add_lenD]; omega)) hf rfl ?_
          intro n6 hn2 hf
          have hn := Nat.le_trans hn hn2
          refine sq.c (v := .string (a)) (wantT (g := 2) (d := 27) rfl rfl rfl) rfl rfl rfl ?_
          refine sq.t (v := .int .i64 (((startsN a.data.toList : Nat) : Int))) (wantT (g := 2) (d := 27) rfl rfl rfl) (CallsF.fn rfl (by kernel_rfl) rfl rfl) (fun hf => f6_spec a (by omega)) hf rfl ?_
          intro n7 hn2 hf
          have hn := Nat.le_trans hn hn2
          refine sq.c (v := .string (b)) (wantT (g := 2) (d := 27) rfl rfl rfl) rfl rfl rfl ?_
          refine sq.t (v := .int .i64 (((startsN b.data.toList : Nat) : Int))) (wantT (g := 2) (d := 27) rfl rfl rfl) (CallsF.fn rfl (by kernel_rfl) rfl rfl) (fun hf => f6_spec b (by omega)) hf rfl ?_
          intro n8 hn2 hf
          have hn := Nat.le_trans hn hn2
          refine sq.c (v := .int .i64 ((((startsN a.data.toList : Nat) : Int)) + (((startsN b.data.toList : Nat) : Int)))) (wantT (g := 2) (d := 27) rfl rfl rfl) rfl (okI (wrap_i64 (by omega) (by omega))) rfl ?_
          refine sq.c (v := .bool (decide (((((startsN a.data.toList : Nat) : Int)) + (((startsN b.data.toList : Nat) : Int))) ≤ (64 : Int)))) (wantT (g := 2) (d := 27) rfl rfl rfl) rfl rfl rfl ?_
          refine sq.c (v := .bool false) (wantT (g := 2) (d := 27) rfl rfl rfl) rfl (Eq.trans (boolNeq _ _) (okB (by rw [mv_add c_a c_b]; simp))) rfl ?_
          refine sq.c (v := .bool false) rfl rfl rfl rfl ?_
          refine sq.e ?_
          refine AWp.condF rfl rfl ?_
          refine AWp.skip ?_
          refine AWp.seq ?_
          refine AWp.rowV (l := _) pok ?_
          refine sq.c (v := .int .i64 (z)) rfl rfl rfl rfl ?_
          refine sq.c (v := .int .u64 (IntKind.u64.wrap (z))) rfl rfl (by kernel_rfl) rfl ?_
          refine sq.c (v := .string (a)) rfl rfl rfl rfl ?_
          refine sq.c (v := .int .i64 ((((a).data.toList.length : Nat) : Int))) rfl rfl (by kernel_rfl) rfl ?_
          refine sq.c (v := .int .u64 ((((a).data.toList.length : Nat) : Int))) rfl rfl (Eq.trans (b := some (.int .u64 (IntKind.u64.wrap ((((a).data.toList.length : Nat) : Int))))) (by kernel_rfl) (okI (wrap_u64 (by omega) (by omega)))) rfl ?_
          have hpos := mayV_ne (a := a.data.toList) c_a
          obtain ⟨k, hk0, hk1, hk⟩ : ∃ k : Int, 0 ≤ k ∧ k < ((a.data.toList.length : Nat) : Int) ∧ IntKind.u64.wrap z % ((a.data.toList.length : Nat) : Int) = k := ⟨_, Int.emod_nonneg _ (by omega), Int.emod_lt_of_pos _ (by omega), rfl⟩
          refine sq.c (v := .int .u64 (k)) rfl rfl (rem_u64 (wrap_nn z) (by omega) hk) rfl ?_
          refine sq.c (v := .int .i64 (k)) rfl rfl (Eq.trans (b := some (.int .i64 (IntKind.i64.wrap (k)))) (by kernel_rfl) (okI (wrap_i64 (by omega) (by omega)))) rfl ?_
          refine sq.c (v := .int .i64 (k)) rfl rfl rfl rfl ?_
          refine sq.e ?_
          refine AWp.seq ?_
          refine AWp.rowV (l := _) pok ?_
          refine sq.c (v := .string (a)) rfl rfl rfl rfl ?_
          refine sq.c (v := .int .i64 (k)) rfl rfl rfl rfl ?_
          refine sq.c (v := .int .u8 (bt (a) (k))) rfl rfl (index_str (P := Tryd.prog) (t := 9) (s := a) (i := k) (k := .i64) (by kernel_rfl) (by omega) (by omega)) rfl ?_
          refine sq.c (v := .bool (decide ((128 : Int) ≤ (bt (a) (k))))) rfl rfl rfl rfl ?_
          refine sq.c (v := .bool (decide ((128 : Int) ≤ (bt (a) (k))))) rfl rfl rfl rfl ?_
          by_cases c8_3 : (128 : Int) ≤ (bt (a) (k))
          · rw [decide_eq_true c8_3]
            refine sq.c (v := .string (a)) (wantT (g := 4) (d := 51) rfl rfl rfl) rfl rfl rfl ?_
            refine sq.c (v := .int .i64 (k)) (wantT (g := 4) (d := 51) rfl rfl rfl) rfl rfl rfl ?_
            refine sq.c (v := .int .u8 (bt (a) (k))) (wantT (g := 4) (d := 51) rfl rfl rfl) rfl (index_str (P := Tryd.prog) (t := 9) (s := a) (i := k) (k := .i64) (by kernel_rfl) (by omega) (by omega)) rfl ?_
            refine sq.c (v := .bool (decide ((bt (a) (k)) < (192 : Int)))) (wantT (g := 4) (d := 51) rfl rfl rfl) rfl rfl rfl ?_
            refine sq.c (v := .bool (decide ((bt (a) (k)) < (192 : Int)))) rfl rfl rfl rfl ?_
            refine sq.c (v := .bool (decide ((bt (a) (k)) < (192 : Int)))) rfl rfl rfl rfl ?_
            refine sq.e ?_
            refine AWp.seq ?_
            refine AWp.rowV (l := _) pok ?_
            refine sq.c (v := .string (a)) rfl rfl rfl rfl ?_
            refine sq.c (v := .int .i64 (k)) rfl rfl rfl rfl ?_
            refine sq.c (v := .string (sub (a) (0) (k))) rfl rfl (slice_str (P := Tryd.prog) (h := h) (t := 9) (s := a) (l := 0) (u := k) (by kernel_rfl) (.inl ⟨rfl, rfl⟩) (.inr ⟨_, rfl⟩) (by omega) (by omega) (by omega)) rfl ?_
            refine sq.t (v := .bool (mayValueB (sub a 0 k))) rfl (CallsF.fn rfl (by kernel_rfl) rfl rfl) (fun hf => f5_at (rfl) (hld.keep hs) (by have := sub_lenD a 0 k; omega)) hf rfl ?_
            intro n9 hn2 hf
            have hn := Nat.le_trans hn hn2
            refine sq.c (v := .int .i64 (k)) rfl rfl rfl rfl ?_
            refine sq.c (v := .bool (decide ((0 : Int) < k))) rfl rfl rfl rfl ?_
            refine sq.c (v := .bool (decide ((0 : Int) < k))) rfl rfl rfl rfl ?_
            by_cases c9_5 : (0 : Int) < k
            · rw [decide_eq_true c9_5]
              refine sq.c (v := .bool (decide ((bt (a) (k)) < (192 : Int)))) (wantT (g := 6) (d := 63) rfl rfl rfl) rfl rfl rfl ?_
              refine sq.c (v := .bool (!decide ((bt (a) (k)) < (192 : Int)))) (wantT (g := 6) (d := 63) rfl rfl rfl) rfl rfl rfl ?_
              refine sq.c (v := .bool (!decide ((bt (a) (k)) < (192 : Int)))) rfl rfl rfl rfl ?_
              refine sq.c (v := .bool true) rfl rfl (Eq.trans (boolEql _ _) (okB (by rw [mv_take c_a hk0 hk1]; rcases Decidable.em (0 < k) with e1 | e1 <;> rcases Decidable.em (128 ≤ bt a k) with e2 | e2 <;> rcases Decidable.em (bt a k < 192) with e3 | e3 <;> first | (exfalso; omega) | simp [e1, e2, e3]))) rfl ?_
              refine sq.c (v := .bool true) rfl rfl rfl rfl ?_
              refine sq.c (v := .string (a)) (wantT (g := 11) (d := 68) rfl rfl rfl) rfl rfl rfl ?_
              refine sq.c (v := .int .i64 (k)) (wantT (g := 11) (d := 68) rfl rfl rfl) rfl rfl rfl ?_
              refine sq.c (v := .string (sub (a) (k) ((((a).data.toList.length : Nat) : Int)))) (wantT (g := 11) (d := 68) rfl rfl rfl) rfl (slice_str (P := Tryd.prog) (h := h) (t := 9) (s := a) (l := k) (u := (((a).data.toList.length : Nat) : Int)) (by kernel_rfl) (.inr ⟨_, rfl⟩) (.inl ⟨rfl, rfl⟩) (by omega) (by omega) (by omega)) rfl ?_
              refine sq.t (v := .bool (mayValueB (sub a k ((a.data.toList.length : Nat) : Int)))) (wantT (g := 11) (d := 68) rfl rfl rfl) (CallsF.fn rfl (by kernel_rfl) rfl rfl) (fun hf => f5_at (rfl) (hld.keep hs) (by have := sub_lenD a k ((a.data.toList.length : Nat) : Int); omega)) hf rfl ?_
              intro n10 hn2 hf
              have hn := Nat.le_trans hn hn2
              refine sq.c (v := .bool (decide ((bt (a) (k)) < (192 : Int)))) (wantT (g := 11) (d := 68) rfl rfl rfl) rfl rfl rfl ?_
              refine sq.c (v := .bool (!decide ((bt (a) (k)) < (192 : Int)))) (wantT (g := 11) (d := 68) rfl rfl rfl) rfl rfl rfl ?_
              refine sq.c (v := .bool true) (wantT (g := 11) (d := 68) rfl rfl rfl) rfl (Eq.trans (boolEql _ _) (okB (by rw [mv_drop c_a hk0 hk1]; rcases Decidable.em (0 < k) with e1 | e1 <;> rcases Decidable.em (128 ≤ bt a k) with e2 | e2 <;> rcases Decidable.em (bt a k < 192) with e3 | e3 <;> first | (exfalso; omega) | simp [e1, e2, e3]))) rfl ?_
              refine sq.c (v := .bool true) rfl rfl rfl rfl ?_
              refine sq.c (v := .bool true) rfl rfl rfl rfl ?_
              refine sq.c (v := .string (a)) (wantT (g := 20) (d := 77) rfl rfl rfl) rfl rfl rfl ?_
              refine sq.c (v := .string (a ++ (⟨#[128]⟩ : ByteArray))) (wantT (g := 20) (d := 77) rfl rfl rfl) rfl (add_str (a := a) (b := ⟨#[128]⟩) (by show a.data.toList.length + 1 < _; omega)) rfl ?_
              refine sq.t (v := .bool false) (wantT (g := 20) (d := 77) rfl rfl rfl) (CallsF.fn rfl (by kernel_rfl) rfl rfl) (fun hf => f5_at (mv_128 c_a) (hld.keep hs) (by rw [add_lenD]; show _ + 1 < _; omega)) hf rfl ?_
              intro n11 hn2 hf
              have hn := Nat.le_trans hn hn2
              refine sq.c (v := .bool true) (wantT (g := 20) (d := 77) rfl rfl rfl) rfl rfl rfl ?_
              refine sq.c (v := .bool true) rfl rfl rfl rfl ?_
              refine sq.c (v := .bool true) rfl rfl rfl rfl ?_
              refine sq.c (v := .string (a)) (wantT (g := 26) (d := 83) rfl rfl rfl) rfl rfl rfl ?_
              refine sq.c (v := .string ((⟨#[10]⟩ : ByteArray) ++ a)) (wantT (g := 26) (d := 83) rfl rfl rfl) rfl (add_str (a := ⟨#[10]⟩) (b := a) (by show 1 + a.data.toList.length < _; omega)) rfl ?_
              refine sq.t (v := .bool false) (wantT (g := 26) (d := 83) rfl rfl rfl) (CallsF.fn rfl (by kernel_rfl) rfl rfl) (fun hf => f5_at (mv_nl a) (hld.keep hs) (by rw [add_lenD]; show 1 + _ < _; omega)) hf rfl ?_
              intro n12 hn2 hf
              have hn := Nat.le_trans hn hn2
              refine sq.c (v := .bool true) (wantT (g := 26) (d := 83) rfl rfl rfl) rfl rfl rfl ?_
              refine sq.c (v := .bool true) rfl rfl rfl rfl ?_
              refine sq.c (v := .bool true) rfl rfl rfl rfl ?_
              refine sq.e ?_
              refine AWp.ret ?_
              -- end 3: ¬c1_2 ¬c1_6 c_a c_b c8_3 c9_5
              refine ⟨rfl, [.bool true], rfl, .bool true, rfl, hs, hn, ?_⟩
              rfl
            · rw [decide_eq_false c9_5]
              refine sq.s (wantF (g := 6) (d := 63) rfl rfl rfl) rfl ?_
              refine sq.s (wantF (g := 6) (d := 63) rfl rfl rfl) rfl ?_
              refine sq.c (v := .bool false) rfl rfl rfl rfl ?_
              refine sq.c (v := .bool true) rfl rfl (Eq.trans (boolEql _ _) (okB (by rw [mv_take c_a hk0 hk1]; rcases Decidable.em (0 < k) with e1 | e1 <;> rcases Decidable.em (128 ≤ bt a k) with e2 | e2 <;> rcases Decidable.em (bt a k < 192) with e3 | e3 <;> first | (exfalso; omega) | simp [e1, e2, e3]))) rfl ?_
              refine sq.c (v := .bool true) rfl rfl rfl rfl ?_
              refine sq.c (v := .string (a)) (wantT (g := 11) (d := 68) rfl rfl rfl) rfl rfl rfl ?_
              refine sq.c (v := .int .i64 (k)) (wantT (g := 11) (d := 68) rfl rfl rfl) rfl rfl rfl ?_
              refine sq.c (v := .string (sub (a) (k) ((((a).data.toList.length : Nat) : Int)))) (wantT (g := 11) (d := 68) rfl rfl rfl) rfl (slice_str (P := Tryd.prog) (h := h) (t := 9) (s := a) (l := k) (u := (((a).data.toList.length : Nat) : Int)) (by kernel_rfl) (.inr ⟨_, rfl⟩) (.inl ⟨rfl, rfl⟩) (by omega) (by omega) (by omega)) rfl ?_
              refine sq.t (v := .bool (mayValueB (sub a k ((a.data.toList.length : Nat) : Int)))) (wantT (g := 11) (d := 68) rfl rfl rfl) (CallsF.fn rfl (by kernel_rfl) rfl rfl) (fun hf => f5_at (rfl) (hld.keep hs) (by have := sub_lenD a k ((a.data.toList.length : Nat) : Int); omega)) hf rfl ?_
              intro n13 hn2 hf
              have hn := Nat.le_trans hn hn2
              refine sq.c (v := .bool (decide ((bt (a) (k)) < (192 : Int)))) (wantT (g := 11) (d := 68) rfl rfl rfl) rfl rfl rfl ?_
              refine sq.c (v := .bool (!decide ((bt (a) (k)) < (192 : Int)))) (wantT (g := 11) (d := 68) rfl rfl rfl) rfl rfl rfl ?_
              refine sq.c (v := .bool true) (wantT (g := 11) (d := 68) rfl rfl rfl) rfl (Eq.trans (boolEql _ _) (okB (by rw [mv_drop c_a hk0 hk1]; rcases Decidable.em (0 < k) with e1 | e1 <;> rcases Decidable.em (128 ≤ bt a k) with e2 | e2 <;> rcases Decidable.em (bt a k < 192) with e3 | e3 <;> first | (exfalso; omega) | simp [e1, e2, e3]))) rfl ?_
              refine sq.c (v := .bool true) rfl rfl rfl rfl ?_
              refine sq.c (v := .bool true) rfl rfl rfl rfl ?_
              refine sq.c (v := .string (a)) (wantT (g := 20) (d := 77) rfl rfl rfl) rfl rfl rfl ?_
              refine sq.c (v := .string (a ++ (⟨#[128]⟩ : ByteArray))) (wantT (g := 20) (d := 77) rfl rfl rfl) rfl (add_str (a := a) (b := ⟨#[128]⟩) (by show a.data.toList.length + 1 < _; omega)) rfl ?_
              refine sq.t (v := .bool false) (wantT (g := 20) (d := 77) rfl rfl rfl) (CallsF.fn rfl (by kernel_rfl) rfl rfl) (fun hf => f5_at (mv_128 c_a) (hld.keep hs) (by rw [add_lenD]; show _ + 1 < _; omega)) hf rfl ?_
              intro n14 hn2 hf
              have hn := Nat.le_trans hn hn2
              refine sq.c (v := .bool true) (wantT (g := 20) (d := 77) rfl rfl rfl) rfl rfl rfl ?_
              refine sq.c (v := .bool true) rfl rfl rfl rfl ?_
              refine sq.c (v := .bool true) rfl rfl rfl rfl ?_
              refine sq.c (v := .string (a)) (wantT (g := 26) (d := 83) rfl rfl rfl) rfl rfl rfl ?_
              refine sq.c (v := .string ((⟨#[10]⟩ : ByteArray) ++ a)) (wantT (g := 26) (d := 83) rfl rfl rfl) rfl (add_str (a := ⟨#[10]⟩) (b := a) (by show 1 + a.data.toList.length < _; omega)) rfl ?_
              refine sq.t (v := .bool false) (wantT (g := 26) (d := 83) rfl rfl rfl) (CallsF.fn rfl (by kernel_rfl) rfl rfl) (fun hf => f5_at (mv_nl a) (hld.keep hs) (by rw [add_lenD]; show 1 + _ < _; omega)) hf rfl ?_
              intro n15 hn2 hf
              have hn := Nat.le_trans hn hn2
              refine sq.c (v := .bool true) (wantT (g := 26) (d := 83) rfl rfl rfl) rfl rfl rfl ?_
              refine sq.c (v := .bool true) rfl rfl rfl rfl ?_
              refine sq.c (v := .bool true) rfl rfl rfl rfl ?_
              refine sq.e ?_
              refine AWp.ret ?_
              -- end 4: ¬c1_2 ¬c1_6 c_a c_b c8_3 ¬c9_5
              refine ⟨rfl, [.bool true], rfl, .bool true, rfl, hs, hn, ?_⟩
              rfl
          · rw [decide_eq_false c8_3]
            refine sq.s (wantF (g := 4) (d := 51) rfl rfl rfl) rfl ?_
            refine sq.s (wantF (g := 4) (d := 51) rfl rfl rfl) rfl ?_
            refine sq.s (wantF (g := 4) (d := 51) rfl rfl rfl) rfl ?_
            refine sq.s (wantF (g := 4) (d := 51) rfl rfl rfl) rfl ?_
            refine sq.c (v := .bool false) rfl rfl rfl rfl ?_
            refine sq.c (v := .bool false) rfl rfl rfl rfl ?_
            refine sq.e ?_
            refine AWp.seq ?_
            refine AWp.rowV (l := _) pok ?_
            refine sq.c (v := .string (a)) rfl rfl rfl rfl ?_
            refine sq.c (v := .int .i64 (k)) rfl rfl rfl rfl ?_
            refine sq.c (v := .string (sub (a) (0) (k))) rfl rfl (slice_str (P := Tryd.prog) (h := h) (t := 9) (s := a) (l := 0) (u := k) (by kernel_rfl) (.inl ⟨rfl, rfl⟩) (.inr ⟨_, rfl⟩) (by omega) (by omega) (by omega)) rfl ?_
            refine sq.t (v := .bool (mayValueB (sub a 0 k))) rfl (CallsF.fn rfl (by kernel_rfl) rfl rfl) (fun hf => f5_at (rfl) (hld.keep hs) (by have := sub_lenD a 0 k; omega)) hf rfl ?_
            intro n16 hn2 hf
            have hn := Nat.le_trans hn hn2
            refine sq.c (v := .int .i64 (k)) rfl rfl rfl rfl ?_
            refine sq.c (v := .bool (decide ((0 : Int) < k))) rfl rfl rfl rfl ?_
            refine sq.c (v := .bool (decide ((0 : Int) < k))) rfl rfl rfl rfl ?_
            by_cases c9_5 : (0 : Int) < k
            · rw [decide_eq_true c9_5]
              refine sq.c (v := .bool false) (wantT (g := 6) (d := 63) rfl rfl rfl) rfl rfl rfl ?_
              refine sq.c (v := .bool true) (wantT (g := 6) (d := 63) rfl rfl rfl) rfl rfl rfl ?_
              refine sq.c (v := .bool true) rfl rfl rfl rfl ?_
              refine sq.c (v := .bool true) rfl rfl (Eq.trans (boolEql _ _) (okB (by rw [mv_take c_a hk0 hk1]; rcases Decidable.em (0 < k) with e1 | e1 <;> rcases Decidable.em (128 ≤ bt a k) with e2 | e2 <;> rcases Decidable.em (bt a k < 192) with e3 | e3 <;> first | (exfalso; omega) | simp [e1, e2, e3]))) rfl ?_
              refine sq.c (v := .bool true) rfl rfl rfl rfl ?_
              refine sq.c (v := .string (a)) (wantT (g := 11) (d := 68) rfl rfl rfl) rfl rfl rfl ?_
              refine sq.c (v := .int .i64 (k)) (wantT (g := 11) (d := 68) rfl rfl rfl) rfl rfl rfl ?_
              refine sq.c (v := .string (sub (a) (k) ((((a).data.toList.length : Nat) : Int)))) (wantT (g := 11) (d := 68) rfl rfl rfl) rfl (slice_str (P := Tryd.prog) (h := h) (t := 9) (s := a) (l := k) (u := (((a).data.toList.length : Nat) : Int)) (by kernel_rfl) (.inr ⟨_, rfl⟩) (.inl ⟨rfl, rfl⟩) (by omega) (by omega) (by omega)) rfl ?_
              refine sq.t (v := .bool (mayValueB (sub a k ((a.data.toList.length : Nat) : Int)))) (wantT (g := 11) (d := 68) rfl rfl rfl) (CallsF.fn rfl (by kernel_rfl) rfl rfl) (fun hf => f5_at (rfl) (hld.keep hs) (by have := sub_lenD a k ((a.data.toList.length : Nat) : Int); omega)) hf rfl ?_
              intro n17 hn2 hf
              have hn := Nat.le_trans hn hn2
              refine sq.c (v := .bool false) (wantT (g := 11) (d := 68) rfl rfl rfl) rfl rfl rfl ?_
              refine sq.c (v := .bool true) (wantT (g := 11) (d := 68) rfl rfl rfl) rfl rfl rfl ?_
              refine sq.c (v := .bool true) (wantT (g := 11) (d := 68) rfl rfl rfl) rfl (Eq.trans (boolEql _ _) (okB (by rw [mv_drop c_a hk0 hk1]; rcases Decidable.em (0 < k) with e1 | e1 <;> rcases Decidable.em (128 ≤ bt a k) with e2 | e2 <;> rcases Decidable.em (bt a k < 192) with e3 | e3 <;> first | (exfalso; omega) | simp [e1, e2, e3]))) rfl ?_
              refine sq.c (v := .bool true) rfl rfl rfl rfl ?_
              refine sq.c (v := .bool true) rfl rfl rfl rfl ?_
              refine sq.c (v := .string (a)) (wantT (g := 20) (d := 77) rfl rfl rfl) rfl rfl rfl ?_
              refine sq.c (v := .string (a ++ (⟨#[128]⟩ : ByteArray))) (wantT (g := 20) (d := 77) rfl rfl rfl) rfl (add_str (a := a) (b := ⟨#[128]⟩) (by show a.data.toList.length + 1 < _; omega)) rfl ?_
              refine sq.t (v := .bool false) (wantT (g := 20) (d := 77) rfl rfl rfl) (CallsF.fn rfl (by kernel_rfl) rfl rfl) (fun hf => f5_at (mv_128 c_a) (hld.keep hs) (by rw [add_lenD]; show _ + 1 < _; omega)) hf rfl ?_
              intro n18 hn2 hf
              have hn := Nat.le_trans hn hn2
              refine sq.c (v := .bool true) (wantT (g := 20) (d := 77) rfl rfl rfl) rfl rfl rfl ?_
              refine sq.c (v := .bool true) rfl rfl rfl rfl ?_
              refine sq.c (v := .bool true) rfl rfl rfl rfl ?_
              refine sq.c (v := .string (a)) (wantT (g := 26) (d := 83) rfl rfl rfl) rfl rfl rfl ?_
              refine sq.c (v := .string ((⟨#[10]⟩ : ByteArray) ++ a)) (wantT (g := 26) (d := 83) rfl rfl rfl) rfl (add_str (a := ⟨#[10]⟩) (b := a) (by show 1 + a.data.toList.length < _; omega)) rfl ?_
              refine sq.t (v := .bool false) (wantT (g := 26) (d := 83) rfl rfl rfl) (CallsF.fn rfl (by kernel_rfl) rfl rfl) (fun hf => f5_at (mv_nl a) (hld.keep hs) (by rw [add_lenD]; show 1 + _ < _; omega)) hf rfl ?_
              intro n19 hn2 hf
              have hn := Nat.le_trans hn hn2
              refine sq.c (v := .bool true) (wantT (g := 26) (d := 83) rfl rfl rfl) rfl rfl rfl ?_
              refine sq.c (v := .bool true) rfl rfl rfl rfl ?_
              refine sq.c (v := .bool true) rfl rfl rfl rfl ?_
              refine sq.e ?_
              refine AWp.ret ?_
              -- end 5: ¬c1_2 ¬c1_6 c_a c_b ¬c8_3 c9_5
              refine ⟨rfl, [.bool true], rfl, .bool true, rfl, hs, hn, ?_⟩
              rfl
            · rw [decide_eq_false c9_5]
              refine sq.s (wantF (g := 6) (d := 63) rfl rfl rfl) rfl ?_
              refine sq.s (wantF (g := 6) (d := 63) rfl rfl rfl) rfl ?_
              refine sq.c (v := .bool false) rfl rfl rfl rfl ?_
              refine sq.c (v := .bool true) rfl rfl (Eq.trans (boolEql _ _) (okB (by rw [mv_take c_a hk0 hk1]; rcases Decidable.em (0 < k) with e1 | e1 <;> rcases Decidable.em (128 ≤ bt a k) with e2 | e2 <;> rcases Decidable.em (bt a k < 192) with e3 | e3 <;> first | (exfalso; omega) | simp [e1, e2, e3]))) rfl ?_
              refine sq.c (v := .bool true) rfl rfl rfl rfl ?_
              refine sq.c (v := .string (a)) (wantT (g := 11) (d := 68) rfl rfl rfl) rfl rfl rfl ?_
              refine sq.c (v := .int .i64 (k)) (wantT (g := 11) (d := 68) rfl rfl rfl) rfl rfl rfl ?_
              refine sq.c (v := .string (sub (a) (k) ((((a).data.toList.length : Nat) : Int)))) (wantT (g := 11) (d := 68) rfl rfl rfl) rfl (slice_str (P := Tryd.prog) (h := h) (t := 9) (s := a) (l := k) (u := (((a).data.toList.length : Nat) : Int)) (by kernel_rfl) (.inr ⟨_, rfl⟩) (.inl ⟨rfl, rfl⟩) (by omega) (by omega) (by omega)) rfl ?_
              refine sq.t (v := .bool (mayValueB (sub a k ((a.data.toList.length : Nat) : Int)))) (wantT (g := 11) (d := 68) rfl rfl rfl) (CallsF.fn rfl (by kernel_rfl) rfl rfl) (fun hf => f5_at (rfl) (hld.keep hs) (by have := sub_lenD a k ((a.data.toList.length : Nat) : Int); omega)) hf rfl ?_
              intro n20 hn2 hf
              have hn := Nat.le_trans hn hn2
              refine sq.c (v := .bool false) (wantT (g := 11) (d := 68) rfl rfl rfl) rfl rfl rfl ?_
              refine sq.c (v := .bool true) (wantT (g := 11) (d := 68) rfl rfl rfl) rfl rfl rfl ?_
              refine sq.c (v := .bool true) (wantT (g := 11) (d := 68) rfl rfl rfl) rfl (Eq.trans (boolEql _ _) (okB (by rw [mv_drop c_a hk0 hk1]; rcases Decidable.em (0 < k) with e1 | e1 <;> rcases Decidable.em (128 ≤ bt a k) with e2 | e2 <;> rcases Decidable.em (bt a k < 192) with e3 | e3 <;> first | (exfalso; omega) | simp [e1, e2, e3]))) rfl ?_
              refine sq.c (v := .bool true) rfl rfl rfl rfl ?_
              refine sq.c (v := .bool true) rfl rfl rfl rfl ?_
              refine sq.c (v := .string (a)) (wantT (g := 20) (d := 77) rfl rfl rfl) rfl rfl rfl ?_
              refine sq.c (v := .string (a ++ (⟨#[128]⟩ : ByteArray))) (wantT (g := 20) (d := 77) rfl rfl rfl) rfl (add_str (a := a) (b := ⟨#[128]⟩) (by show a.data.toList.length + 1 < _; omega)) rfl ?_
              refine sq.t (v := .bool false) (wantT (g := 20) (d := 77) rfl rfl rfl) (CallsF.fn rfl (by kernel_rfl) rfl rfl) (fun hf => f5_at (mv_128 c_a) (hld.keep hs) (by rw [add_lenD]; show _ + 1 < _; omega)) hf rfl ?_
              intro n21 hn2 hf
              have hn := Nat.le_trans hn hn2
              refine sq.c (v := .bool true) (wantT (g := 20) (d := 77) rfl rfl rfl) rfl rfl rfl ?_
              refine sq.c (v := .bool true) rfl rfl rfl rfl ?_
              refine sq.c (v := .bool true) rfl rfl rfl rfl ?_
              refine sq.c (v := .string (a)) (wantT (g := 26) (d := 83) rfl rfl rfl) rfl rfl rfl ?_
              refine sq.c (v := .string ((⟨#[10]⟩ : ByteArray) ++ a)) (wantT (g := 26) (d := 83) rfl rfl rfl) rfl (add_str (a := ⟨#[10]⟩) (b := a) (by show 1 + a.data.toList.length < _; omega)) rfl ?_
              refine sq.t (v := .bool false) (wantT (g := 26) (d := 83) rfl rfl rfl) (CallsF.fn rfl (by kernel_rfl) rfl rfl) (fun hf => f5_at (mv_nl a) (hld.keep hs) (by rw [add_lenD]; show 1 + _ < _; omega)) hf rfl ?_
              intro n22 hn2 hf
              have hn := Nat.le_trans hn hn2
              refine sq.c (v := .bool true) (wantT (g := 26) (d := 83) rfl rfl rfl) rfl rfl rfl ?_
              refine sq.c (v := .bool true) rfl rfl rfl rfl ?_
              refine sq.c (v := .bool true) rfl rfl rfl rfl ?_
              refine sq.e ?_
              refine AWp.ret ?_
              -- end 6: ¬c1_2 ¬c1_6 c_a c_b ¬c8_3 ¬c9_5
              refine ⟨rfl, [.bool true], rfl, .bool true, rfl, hs, hn, ?_⟩
              rfl
        · rw [c_b]
          refine sq.s (wantF (g := 2) (d := 27) rfl rfl rfl) rfl ?_
          refine sq.s (wantF (g := 2) (d := 27) rfl rfl rfl) rfl ?_
          refine sq.s (wantF (g := 2) (d := 27) rfl rfl rfl) rfl ?_
          refine sq.s (wantF (g := 2) (d := 27) rfl rfl rfl) rfl ?_
          refine sq.s (wantF (g := 2) (d := 27) rfl rfl rfl) rfl ?_
          refine sq.s (wantF (g := 2) (d := 27) rfl rfl rfl) rfl ?_
          refine sq.s (wantF (g := 2) (d := 27) rfl rfl rfl) rfl ?_
          refine sq.s (wantF (g := 2) (d := 27) rfl rfl rfl) rfl ?_
          refine sq.s (wantF (g := 2) (d := 27) rfl rfl rfl) rfl ?_
          refine sq.s (wantF (g := 2) (d := 27) rfl rfl rfl) rfl ?_
          refine sq.s (wantF (g := 2) (d := 27) rfl rfl rfl) rfl ?_
          refine sq.c (v := .bool false) rfl rfl rfl rfl ?_
          refine sq.e ?_
          refine AWp.condF rfl rfl ?_
          refine AWp.skip ?_
          refine AWp.seq ?_
          refine AWp.rowV (l := _) pok ?_
          refine sq.c (v := .int .i64 (z)) rfl rfl rfl rfl ?_
          refine sq.c (v := .int .u64 (IntKind.u64.wrap (z))) rfl rfl (by kernel_rfl) rfl ?_
          refine sq.c (v := .string (a)) rfl rfl rfl rfl ?_
          refine sq.c (v := .int .i64 ((((a).data.toList.length : Nat) : Int))) rfl rfl (by kernel_rfl) rfl ?_
          refine sq.c (v := .int .u64 ((((a).data.toList.length : Nat) : Int))) rfl rfl (Eq.trans (b := some (.int .u64 (IntKind.u64.wrap ((((a).data.toList.length : Nat) : Int))))) (by kernel_rfl) (okI (wrap_u64 (by omega) (by omega)))) rfl ?_
          have hpos := mayV_ne (a := a.data.toList) c_a
          obtain ⟨k, hk0, hk1, hk⟩ : ∃ k : Int, 0 ≤ k ∧ k < ((a.data.toList.length : Nat) : Int) ∧ IntKind.u64.wrap z % ((a.data.toList.length : Nat) : Int) = k := ⟨_, Int.emod_nonneg _ (by omega), Int.emod_lt_of_pos _ (by omega), rfl⟩
          refine sq.c (v := .int .u64 (k)) rfl rfl (rem_u64 (wrap_nn z) (by omega) hk) rfl ?_
          refine sq.c (v := .int .i64 (k)) rfl rfl (Eq.trans (b := some (.int .i64 (IntKind.i64.wrap (k)))) (by kernel_rfl) (okI (wrap_i64 (by omega) (by omega)))) rfl ?_
          refine sq.c (v := .int .i64 (k)) rfl rfl rfl rfl ?_
          refine sq.e ?_
          refine AWp.seq ?_
          refine AWp.rowV (l := _) pok ?_
          refine sq.c (v := .string (a)) rfl rfl rfl rfl ?_
          refine sq.c (v := .int .i64 (k)) rfl rfl rfl rfl ?_
          refine sq.c (v := .int .u8 (bt (a) (k))) rfl rfl (index_str (P := Tryd.prog) (t := 9) (s := a) (i := k) (k := .i64) (by kernel_rfl) (by omega) (by omega)) rfl ?_
          refine sq.c (v := .bool (decide ((128 : Int) ≤ (bt (a) (k))))) rfl rfl rfl rfl ?_
          refine sq.c (v := .bool (decide ((128 : Int) ≤ (bt (a) (k))))) rfl rfl rfl rfl ?_
          by_cases c8_3 : (128 : Int) ≤ (bt (a) (k))
          · rw [decide_eq_true c8_3]
            refine sq.c (v := .string (a)) (wantT (g := 4) (d := 51) rfl rfl rfl) rfl rfl rfl ?_
            refine sq.c (v := .int .i64 (k)) (wantT (g := 4) (d := 51) rfl rfl rfl) rfl rfl rfl ?_
            refine sq.c (v := .int .u8 (bt (a) (k))) (wantT (g := 4) (d := 51) rfl rfl rfl) rfl (index_str (P := Tryd.prog) (t := 9) (s := a) (i := k) (k := .i64) (by kernel_rfl) (by omega) (by omega)) rfl ?_
            refine sq.c (v := .bool (decide ((bt (a) (k)) < (192 : Int)))) (wantT (g := 4) (d := 51) rfl rfl rfl) rfl rfl rfl ?_
            refine sq.c (v := .bool (decide ((bt (a) (k)) < (192 : Int)))) rfl rfl rfl rfl ?_
            refine sq.c (v := .bool (decide ((bt (a) (k)) < (192 : Int)))) rfl rfl rfl rfl ?_
            refine sq.e ?_
            refine AWp.seq ?_
            refine AWp.rowV (l := _) pok ?_
            refine sq.c (v := .string (a)) rfl rfl rfl rfl ?_
            refine sq.c (v := .int .i64 (k)) rfl rfl rfl rfl ?_
            refine sq.c (v := .string (sub (a) (0) (k))) rfl rfl (slice_str (P := Tryd.prog) (h := h) (t := 9) (s := a) (l := 0) (u := k) (by kernel_rfl) (.inl ⟨rfl, rfl⟩) (.inr ⟨_, rfl⟩) (by omega) (by omega) (by omega)) rfl ?_
            refine sq.t (v := .bool (mayValueB (sub a 0 k))) rfl (CallsF.fn rfl (by kernel_rfl) rfl rfl) (fun hf => f5_at (rfl) (hld.keep hs) (by have := sub_lenD a 0 k; omega)) hf rfl ?_
            intro n23 hn2 hf
            have hn := Nat.le_trans hn hn2
            refine sq.c (v := .int .i64 (k)) rfl rfl rfl rfl ?_
            refine sq.c (v := .bool (decide ((0 : Int) < k))) rfl rfl rfl rfl ?_
            refine sq.c (v := .bool (decide ((0 : Int) < k))) rfl rfl rfl rfl ?_
            by_cases c9_5 : (0 : Int) < k
            · rw [decide_eq_true c9_5]
              refine sq.c (v := .bool (decide ((bt (a) (k)) < (192 : Int)))) (wantT (g := 6) (d := 63) rfl rfl rfl) rfl rfl rfl ?_
              refine sq.c (v := .bool (!decide ((bt (a) (k)) < (192 : Int)))) (wantT (g := 6) (d := 63) rfl rfl rfl) rfl rfl rfl ?_
              refine sq.c (v := .bool (!decide ((bt (a) (k)) < (192 : Int)))) rfl rfl rfl rfl ?_
              refine sq.c (v := .bool true) rfl rfl (Eq.trans (boolEql _ _) (okB (by rw [mv_take c_a hk0 hk1]; rcases Decidable.em (0 < k) with e1 | e1 <;> rcases Decidable.em (128 ≤ bt a k) with e2 | e2 <;> rcases Decidable.em (bt a k < 192) with e3 | e3 <;> first | (exfalso; omega) | simp [e1, e2, e3]))) rfl ?_
              refine sq.c (v := .bool true) rfl rfl rfl rfl ?_
              refine sq.c (v := .string (a)) (wantT (g := 11) (d := 68) rfl rfl rfl) rfl rfl rfl ?_
              refine sq.c (v := .int .i64 (k)) (wantT (g := 11) (d := 68) rfl rfl rfl) rfl rfl rfl ?_
              refine sq.c (v := .string (sub (a) (k) ((((a).data.toList.length : Nat) : Int)))) (wantT (g := 11) (d := 68) rfl rfl rfl) rfl (slice_str (P := Tryd.prog) (h := h) (t := 9) (s := a) (l := k) (u := (((a).data.toList.length : Nat) : Int)) (by kernel_rfl) (.inr ⟨_, rfl⟩) (.inl ⟨rfl, rfl⟩) (by omega) (by omega) (by omega)) rfl ?_
              refine sq.t (v := .bool (mayValueB (sub a k ((a.data.toList.length : Nat) : Int)))) (wantT (g := 11) (d := 68) rfl rfl rfl) (CallsF.fn rfl (by kernel_rfl) rfl rfl) (fun hf => f5_at (rfl) (hld.keep hs) (by have := sub_lenD a k ((a.data.toList.length : Nat) : Int); omega)) hf rfl ?_
              intro n24 hn2 hf
              have hn := Nat.le_trans hn hn2
              refine sq.c (v := .bool (decide ((bt (a) (k)) < (192 : Int)))) (wantT (g := 11) (d := 68) rfl rfl rfl) rfl rfl rfl ?_
              refine sq.c (v := .bool (!decide ((bt (a) (k)) < (192 : Int)))) (wantT (g := 11) (d := 68) rfl rfl rfl) rfl rfl rfl ?_
              refine sq.c (v := .bool true) (wantT (g := 11) (d := 68) rfl rfl rfl) rfl (Eq.trans (boolEql _ _) (okB (by rw [mv_drop c_a hk0 hk1]; rcases Decidable.em (0 < k) with e1 | e1 <;> rcases Decidable.em (128 ≤ bt a k) with e2 | e2 <;> rcases Decidable.em (bt a k < 192) with e3 | e3 <;> first | (exfalso; omega) | simp [e1, e2, e3]))) rfl ?_
              refine sq.c (v := .bool true) rfl rfl rfl rfl ?_
              refine sq.c (v := .bool true) rfl rfl rfl rfl ?_
              refine sq.c (v := .string (a)) (wantT (g := 20) (d := 77) rfl rfl rfl) rfl rfl rfl ?_
              refine sq.c (v := .string (a ++ (⟨#[128]⟩ : ByteArray))) (wantT (g := 20) (d := 77) rfl rfl rfl) rfl (add_str (a := a) (b := ⟨#[128]⟩) (by show a.data.toList.length + 1 < _; omega)) rfl ?_
              refine sq.t (v := .bool false) (wantT (g := 20) (d := 77) rfl rfl rfl) (CallsF.fn rfl (by kernel_rfl) rfl rfl) (fun hf => f5_at (mv_128 c_a) (hld.keep hs) (by rw [add_lenD]; show _ + 1 < _; omega)) hf rfl ?_
              intro n25 hn2 hf
              have hn := Nat.le_trans hn hn2
              refine sq.c (v := .bool true) (wantT (g := 20) (d := 77) rfl rfl rfl) rfl rfl rfl ?_
              refine sq.c (v := .bool true) rfl rfl rfl rfl ?_
              refine sq.c (v := .bool true) rfl rfl rfl rfl ?_
              refine sq.c (v := .string (a)) (wantT (g := 26) (d := 83) rfl rfl rfl) rfl rfl rfl ?_
              refine sq.c (v := .string ((⟨#[10]⟩ : ByteArray) ++ a)) (wantT (g := 26) (d := 83) rfl rfl rfl) rfl (add_str (a := ⟨#[10]⟩) (b := a) (by show 1 + a.data.toList.length < _; omega)) rfl ?_
              refine sq.t (v := .bool false) (wantT (g := 26) (d := 83) rfl rfl rfl) (CallsF.fn rfl (by kernel_rfl) rfl rfl) (fun hf => f5_at (mv_nl a) (hld.keep hs) (by rw [add_lenD]; show 1 + _ < _; omega)) hf rfl ?_
              intro n26 hn2 hf
              have hn := Nat.le_trans hn hn2
              refine sq.c (v := .bool true) (wantT (g := 26) (d := 83) rfl rfl rfl) rfl rfl rfl ?_
              refine sq.c (v := .bool true) rfl rfl rfl rfl ?_
              refine sq.c (v := .bool true) rfl rfl rfl rfl ?_
              refine sq.e ?_
              refine AWp.ret ?_
              -- end 7: ¬c1_2 ¬c1_6 c_a ¬c_b c8_3 c9_5
              refine ⟨rfl, [.bool true], rfl, .bool true, rfl, hs, hn, ?_⟩
              rfl
            · rw [decide_eq_false c9_5]
              refine sq.s (wantF (g := 6) (d := 63) rfl rfl rfl) rfl ?_
              refine sq.s (wantF (g := 6) (d := 63) rfl rfl rfl) rfl ?_
              refine sq.c (v := .bool false) rfl rfl rfl rfl ?_
              refine sq.c (v := .bool true) rfl rfl (Eq.trans (boolEql _ _) (okB (by rw [mv_take c_a hk0 hk1]; rcases Decidable.em (0 < k) with e1 | e1 <;> rcases Decidable.em (128 ≤ bt a k) with e2 | e2 <;> rcases Decidable.em (bt a k < 192) with e3 | e3 <;> first | (exfalso; omega) | simp [e1, e2, e3]))) rfl ?_
              refine sq.c (v := .bool true) rfl rfl rfl rfl ?_
              refine sq.c (v := .string (a)) (wantT (g := 11) (d := 68) rfl rfl rfl) rfl rfl rfl ?_
              refine sq.c (v := .int .i64 (k)) (wantT (g := 11) (d := 68) rfl rfl rfl) rfl rfl rfl ?_
              refine sq.c (v := .string (sub (a) (k) ((((a).data.toList.length : Nat) : Int)))) (wantT (g := 11) (d := 68) rfl rfl rfl) rfl (slice_str (P := Tryd.prog) (h := h) (t := 9) (s := a) (l := k) (u := (((a).data.toList.length : Nat) : Int)) (by kernel_rfl) (.inr ⟨_, rfl⟩) (.inl ⟨rfl, rfl⟩) (by omega) (by omega) (by omega)) rfl ?_
              refine sq.t (v := .bool (mayValueB (sub a k ((a.data.toList.length : Nat) : Int)))) (wantT (g := 11) (d := 68) rfl rfl rfl) (CallsF.fn rfl (by kernel_rfl) rfl rfl) (fun hf => f5_at (rfl) (hld.keep hs) (by have := sub_lenD a k ((a.data.toList.length : Nat) : Int); omega)) hf rfl ?_
              intro n27 hn2 hf
              have hn := Nat.le_trans hn hn2
              refine sq.c (v := .bool (decide ((bt (a) (k)) < (192 : Int)))) (wantT (g := 11) (d := 68) rfl rfl rfl) rfl rfl rfl ?_
              refine sq.c (v := .bool (!decide ((bt (a) (k)) < (192 : Int)))) (wantT (g := 11) (d := 68) rfl rfl rfl) rfl rfl rfl ?_
              refine sq.c (v := .bool true) (wantT (g := 11) (d := 68) rfl rfl rfl) rfl (Eq.trans (boolEql _ _) (okB (by rw [mv_drop c_a hk0 hk1]; rcases Decidable.em (0 < k) with e1 | e1 <;> rcases Decidable.em (128 ≤ bt a k) with e2 | e2 <;> rcases Decidable.em (bt a k < 192) with e3 | e3 <;> first | (exfalso; omega) | simp [e1, e2, e3]))) rfl ?_
              refine sq.c (v := .bool true) rfl rfl rfl rfl ?_
              refine sq.c (v := .bool true) rfl rfl rfl rfl ?_
              refine sq.c (v := .string (a)) (wantT (g := 20) (d := 77) rfl rfl rfl) rfl rfl rfl ?_
              refine sq.c (v := .string (a ++ (⟨#[128]⟩ : ByteArray))) (wantT (g := 20) (d := 77) rfl rfl rfl) rfl (add_str (a := a) (b := ⟨#[128]⟩) (by show a.data.toList.length + 1 < _; omega)) rfl ?_
              refine sq.t (v := .bool false) (wantT (g := 20) (d := 77) rfl rfl rfl) (CallsF.fn rfl (by kernel_rfl) rfl rfl) (fun hf => f5_at (mv_128 c_a) (hld.keep hs) (by rw [add_lenD]; show _ + 1 < _; omega)) hf rfl ?_
              intro n28 hn2 hf
              have hn := Nat.le_trans hn hn2
              refine sq.c (v := .bool true) (wantT (g := 20) (d := 77) rfl rfl rfl) rfl rfl rfl ?_
              refine sq.c (v := .bool true) rfl rfl rfl rfl ?_
              refine sq.c (v := .bool true) rfl rfl rfl rfl ?_
              refine sq.c (v := .string (a)) (wantT (g := 26) (d := 83) rfl rfl rfl) rfl rfl rfl ?_
              refine sq.c (v := .string ((⟨#[10]⟩ : ByteArray) ++ a)) (wantT (g := 26) (d := 83) rfl rfl rfl) rfl (add_str (a := ⟨#[10]⟩) (b := a) (by show 1 + a.data.toList.length < _; omega)) rfl ?_
              refine sq.t (v := .bool false) (wantT (g := 26) (d := 83) rfl rfl rfl) (CallsF.fn rfl (by kernel_rfl) rfl rfl) (fun hf => f5_at (mv_nl a) (hld.keep hs) (by rw [add_lenD]; show 1 + _ < _; omega)) hf rfl ?_
              intro n29 hn2 hf
              have hn := Nat.le_trans hn hn2
              refine sq.c (v := .bool true) (wantT (g := 26) (d := 83) rfl rfl rfl) rfl rfl rfl ?_
              refine sq.c (v := .bool true) rfl rfl rfl rfl ?_
              refine sq.c (v := .bool true) rfl rfl rfl rfl ?_
              refine sq.e ?_
              refine AWp.ret ?_
              -- end 8: ¬c1_2 ¬c1_6 c_a ¬c_b c8_3 ¬c9_5
              refine ⟨rfl, [.bool true], rfl, .bool true, rfl, hs, hn, ?_⟩
              rfl
          · rw [decide_eq_false c8_3]
            refine sq.s (wantF (g := 4) (d := 51) rfl rfl rfl) rfl ?_
            refine sq.s (wantF (g := 4) (d := 51) rfl rfl rfl) rfl ?_
            refine sq.s (wantF (g := 4) (d := 51) rfl rfl rfl) rfl ?_
            refine sq.s (wantF (g := 4) (d := 51) rfl rfl rfl) rfl ?_
            refine sq.c (v := .bool false) rfl rfl rfl rfl ?_
            refine sq.c (v := .bool false) rfl rfl rfl rfl ?_
            refine sq.e ?_
            refine AWp.seq ?_
            refine AWp.rowV (l := _) pok ?_
            refine sq.c (v := .string (a)) rfl rfl rfl rfl ?_
            refine sq.c (v := .int .i64 (k)) rfl rfl rfl rfl ?_
            refine sq.c (v := .string (sub (a) (0) (k))) rfl rfl (slice_str (P := Tryd.prog) (h := h) (t := 9) (s := a) (l := 0) (u := k) (by kernel_rfl) (.inl ⟨rfl, rfl⟩) (.inr ⟨_, rfl⟩) (by omega) (by omega) (by omega)) rfl ?_
            refine sq.t (v := .bool (mayValueB (sub a 0 k))) rfl (CallsF.fn rfl (by kernel_rfl) rfl rfl) (fun hf => f5_at (rfl) (hld.keep hs) (by have := sub_lenD a 0 k; omega)) hf rfl ?_
            intro n30 hn2 hf
            have hn := Nat.le_trans hn hn2
            refine sq.c (v := .int .i64 (k)) rfl rfl rfl rfl ?_
            refine sq.c (v := .bool (decide ((0 : Int) < k))) rfl rfl rfl rfl ?_
            refine sq.c (v := .bool (decide ((0 : Int) < k))) rfl rfl rfl rfl ?_
            by_cases c9_5 : (0 : Int) < k
            · rw [decide_eq_true c9_5]
              refine sq.c (v := .bool false) (wantT (g := 6) (d := 63) rfl rfl rfl) rfl rfl rfl ?_
              refine sq.c (v := .bool true) (wantT (g := 6) (d := 63) rfl rfl rfl) rfl rfl rfl ?_
              refine sq.c (v := .bool true) rfl rfl rfl rfl ?_
              refine sq.c (v := .bool true) rfl rfl (Eq.trans (boolEql _ _) (okB (by rw [mv_take c_a hk0 hk1]; rcases Decidable.em (0 < k) with e1 | e1 <;> rcases Decidable.em (128 ≤ bt a k) with e2 | e2 <;> rcases Decidable.em (bt a k < 192) with e3 | e3 <;> first | (exfalso; omega) | simp [e1, e2, e3]))) rfl ?_
              refine sq.c (v := .bool true) rfl rfl rfl rfl ?_
              refine sq.c (v := .string (a)) (wantT (g := 11) (d := 68) rfl rfl rfl) rfl rfl rfl ?_
              refine sq.c (v := .int .i64 (k)) (wantT (g := 11) (d := 68) rfl rfl rfl) rfl rfl rfl ?_
              refine sq.c (v := .string (sub (a) (k) ((((a).data.toList.length : Nat) : Int)))) (wantT (g := 11) (d := 68) rfl rfl rfl) rfl (slice_str (P := Tryd.prog) (h := h) (t := 9) (s := a) (l := k) (u := (((a).data.toList.length : Nat) : Int)) (by kernel_rfl) (.inr ⟨_, rfl⟩) (.inl ⟨rfl, rfl⟩) (by omega) (by omega) (by omega)) rfl ?_
              refine sq.t (v := .bool (mayValueB (sub a k ((a.data.toList.length : Nat) : Int)))) (wantT (g := 11) (d := 68) rfl rfl rfl) (CallsF.fn rfl (by kernel_rfl) rfl rfl) (fun hf => f5_at (rfl) (hld.keep hs) (by have := sub_lenD a k ((a.data.toList.length : Nat) : Int); omega)) hf rfl ?_
              intro n31 hn2 hf
              have hn := Nat.le_trans hn hn2
              refine sq.c (v := .bool false) (wantT (g := 11) (d := 68) rfl rfl rfl) rfl rfl rfl ?_
              refine sq.c (v := .bool true) (wantT (g := 11) (d := 68) rfl rfl rfl) rfl rfl rfl ?_
              refine sq.c (v := .bool true) (wantT (g := 11) (d := 68) rfl rfl rfl) rfl (Eq.trans (boolEql _ _) (okB (by rw [mv_drop c_a hk0 hk1]; rcases Decidable.em (0 < k) with e1 | e1 <;> rcases Decidable.em (128 ≤ bt a k) with e2 | e2 <;> rcases Decidable.em (bt a k < 192) with e3 | e3 <;> first | (exfalso; omega) | simp [e1, e2, e3]))) rfl ?_
              refine sq.c (v := .bool true) rfl rfl rfl rfl ?_
              refine sq.c (v := .bool true) rfl rfl rfl rfl ?_
              refine sq.c (v := .string (a)) (wantT (g := 20) (d := 77) rfl rfl rfl) rfl rfl rfl ?_
              refine sq.c (v := .string (a ++ (⟨#[128]⟩ : ByteArray))) (wantT (g := 20) (d := 77) rfl rfl rfl) rfl (add_str (a := a) (b := ⟨#[128]⟩) (by show a.data.toList.length + 1 < _; omega)) rfl ?_
              refine sq.t (v := .bool false) (wantT (g := 20) (d := 77) rfl rfl rfl) (CallsF.fn rfl (by kernel_rfl) rfl rfl) (fun hf => f5_at (mv_128 c_a) (hld.keep hs) (by rw [add_lenD]; show _ + 1 < _; omega)) hf rfl ?_
              intro n32 hn2 hf
              have hn := Nat.le_trans hn hn2
              refine sq.c (v := .bool true) (wantT (g := 20) (d := 77) rfl rfl rfl) rfl rfl rfl ?_
              refine sq.c (v := .bool true) rfl rfl rfl rfl ?_
              refine sq.c (v := .bool true) rfl rfl rfl rfl ?_
              refine sq.c (v := .string (a)) (wantT (g := 26) (d := 83) rfl rfl rfl) rfl rfl rfl ?_
              refine sq.c (v := .string ((⟨#[10]⟩ : ByteArray) ++ a)) (wantT (g := 26) (d := 83) rfl rfl rfl) rfl (add_str (a := ⟨#[10]⟩) (b := a) (by show 1 + a.data.toList.length < _; omega)) rfl ?_
              refine sq.t (v := .bool false) (wantT (g := 26) (d := 83) rfl rfl rfl) (CallsF.fn rfl (by kernel_rfl) rfl rfl) (fun hf => f5_at (mv_nl a) (hld.keep hs) (by rw [add_lenD]; show 1 + _ < _; omega)) hf rfl ?_
              intro n33 hn2 hf
              have hn := Nat.le_trans hn hn2
              refine sq.c (v := .bool true) (wantT (g := 26) (d := 83) rfl rfl rfl) rfl rfl rfl ?_
              refine sq.c (v := .bool true) rfl rfl rfl rfl ?_
              refine sq.c (v := .bool true) rfl rfl rfl rfl ?_
              refine sq.e ?_
              refine AWp.ret ?_
              -- end 9: ¬c1_2 ¬c1_6 c_a ¬c_b ¬c8_3 c9_5
              refine ⟨rfl, [.bool true], rfl, .bool true, rfl, hs, hn, ?_⟩
              rfl
            · rw [decide_eq_false c9_5]
              refine sq.s (wantF (g := 6) (d := 63) rfl rfl rfl) rfl ?_
              refine sq.s (wantF (g := 6) (d := 63) rfl rfl rfl) rfl ?_
              refine sq.c (v := .bool false) rfl rfl rfl rfl ?_
              refine sq.c (v := .bool true) rfl rfl (Eq.trans (boolEql _ _) (okB (by rw [mv_take c_a hk0 hk1]; rcases Decidable.em (0 < k) with e1 | e1 <;> rcases Decidable.em (128 ≤ bt a k) with e2 | e2 <;> rcases Decidable.em (bt a k < 192) with e3 | e3 <;> first | (exfalso; omega) | simp [e1, e2, e3]))) rfl ?_
              refine sq.c (v := .bool true) rfl rfl rfl rfl ?_
              refine sq.c (v := .string (a)) (wantT (g := 11) (d := 68) rfl rfl rfl) rfl rfl rfl ?_
              refine sq.c (v := .int .i64 (k)) (wantT (g := 11) (d := 68) rfl rfl rfl) rfl rfl rfl ?_
              refine sq.c (v := .string (sub (a) (k) ((((a).data.toList.length : Nat) : Int)))) (wantT (g := 11) (d := 68) rfl rfl rfl) rfl (slice_str (P := Tryd.prog) (h := h) (t := 9) (s := a) (l := k) (u := (((a).data.toList.length : Nat) : Int)) (by kernel_rfl) (.inr ⟨_, rfl⟩) (.inl ⟨rfl, rfl⟩) (by omega) (by omega) (by omega)) rfl ?_
              refine sq.t (v := .bool (mayValueB (sub a k ((a.data.toList.length : Nat) : Int)))) (wantT (g := 11) (d := 68) rfl rfl rfl) (CallsF.fn rfl (by kernel_rfl) rfl rfl) (fun hf => f5_at (rfl) (hld.keep hs) (by have := sub_lenD a k ((a.data.toList.length : Nat) : Int); omega)) hf rfl ?_
              intro n34 hn2 hf
              have hn := Nat.le_trans hn hn2
              refine sq.c (v := .bool false) (wantT (g := 11) (d := 68) rfl rfl rfl) rfl rfl rfl ?_
              refine sq.c (v := .bool true) (wantT (g := 11) (d := 68) rfl rfl rfl) rfl rfl rfl ?_
              refine sq.c (v := .bool true) (wantT (g := 11) (d := 68) rfl rfl rfl) rfl (Eq.trans (boolEql _ _) (okB (by rw [mv_drop c_a hk0 hk1]; rcases Decidable.em (0 < k) with e1 | e1 <;> rcases Decidable.em (128 ≤ bt a k) with e2 | e2 <;> rcases Decidable.em (bt a k < 192) with e3 | e3 <;> first | (exfalso; omega) | simp [e1, e2, e3]))) rfl ?_
              refine sq.c (v := .bool true) rfl rfl rfl rfl ?_
              refine sq.c (v := .bool true) rfl rfl rfl rfl ?_
              refine sq.c (v := .string (a)) (wantT (g := 20) (d := 77) rfl rfl rfl) rfl rfl rfl ?_
              refine sq.c (v := .string (a ++ (⟨#[128]⟩ : ByteArray))) (wantT (g := 20) (d := 77) rfl rfl rfl) rfl (add_str (a := a) (b := ⟨#[128]⟩) (by show a.data.toList.length + 1 < _; omega)) rfl ?_
              refine sq.t (v := .bool false) (wantT (g := 20) (d := 77) rfl rfl rfl) (CallsF.fn rfl (by kernel_rfl) rfl rfl) (fun hf => f5_at (mv_128 c_a) (hld.keep hs) (by rw [add_lenD]; show _ + 1 < _; omega)) hf rfl ?_
              intro n35 hn2 hf
              have hn := Nat.le_trans hn hn2
              refine sq.c (v := .bool true) (wantT (g := 20) (d := 77) rfl rfl rfl) rfl rfl rfl ?_
              refine sq.c (v := .bool true) rfl rfl rfl rfl ?_
              refine sq.c (v := .bool true) rfl rfl rfl rfl ?_
              refine sq.c (v := .string (a)) (wantT (g := 26) (d := 83) rfl rfl rfl) rfl rfl rfl ?_
              refine sq.c (v := .string ((⟨#[10]⟩ : ByteArray) ++ a)) (wantT (g := 26) (d := 83) rfl rfl rfl) rfl (add_str (a := ⟨#[10]⟩) (b := a) (by show 1 + a.data.toList.length < _; omega)) rfl ?_
              refine sq.t (v := .bool false) (wantT (g := 26) (d := 83) rfl rfl rfl) (CallsF.fn rfl (by kernel_rfl) rfl rfl) (fun hf => f5_at (mv_nl a) (hld.keep hs) (by rw [add_lenD]; show 1 + _ < _; omega)) hf rfl ?_
              intro n36 hn2 hf
              have hn := Nat.le_trans hn hn2
              refine sq.c (v := .bool true) (wantT (g := 26) (d := 83) rfl rfl rfl) rfl rfl rfl ?_
              refine sq.c (v := .bool true) rfl rfl rfl rfl ?_
              refine sq.c (v := .bool true) rfl rfl rfl rfl ?_
              refine sq.e ?_
              refine AWp.ret ?_
              -- end 10: ¬c1_2 ¬c1_6 c_a ¬c_b ¬c8_3 ¬c9_5
              refine ⟨rfl, [.bool true], rfl, .bool true, rfl, hs, hn, ?_⟩
              rfl
      · rw [c_a]
        refine sq.c (v := .bool true) rfl rfl rfl rfl ?_
        refine sq.e ?_
        refine AWp.condT rfl rfl ?_
        refine AWp.seq ?_
        refine AWp.rowV (l := _) pok ?_
        refine sq.c (v := .bool true) rfl rfl rfl rfl ?_
        refine sq.e ?_
        refine AWp.ret ?_
        -- end 11: ¬c1_2 ¬c1_6 ¬c_a
        refine ⟨rfl, [.bool true], rfl, .bool true, rfl, hs, hn, ?_⟩
        rfl

end Go.Proofs.YtkpjfibpaojelaaDoor
