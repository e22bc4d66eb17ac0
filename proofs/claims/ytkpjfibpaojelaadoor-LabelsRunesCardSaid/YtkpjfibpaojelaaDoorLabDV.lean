/- LabelsRunes: MayValue, starts. -/
import Derived.Test.YtkpjfibpaojelaaDoorLabDTabs
import Derived.Test.YtkpjfibpaojelaaDoorRuneCut
import Derived.Test.YtkpjfibpaojelaaDoorAbsF
namespace Go.Proofs.YtkpjfibpaojelaaDoor
open Go Go.Abs
set_option maxRecDepth 100000
set_option maxHeartbeats 4000000

theorem contB_bt {s : ByteArray} {i : Int} : contB (s.data.toList.getD i.toNat 0) = decide (128 ≤ bt s i ∧ bt s i < 192) := by
  unfold contB bt
  rw [List.getD_eq_getElem?_getD]
  apply decide_eq_decide.2
  omega
theorem starts_step {s : ByteArray} {i : Int} (h0 : 0 ≤ i) (h1 : i < (s.data.toList.length : Nat)) : startsN (s.data.toList.take (i + 1).toNat) = startsN (s.data.toList.take i.toNat) + if bt s i < 128 ∨ 192 ≤ bt s i then 1 else 0 := by
  have hlt : i.toNat < s.data.toList.length := by omega
  rw [show (i + 1).toNat = i.toNat + 1 by omega]
  unfold startsN
  rw [List.take_succ_eq_append_getElem hlt, List.countP_append]
  congr 1
  have e := contB_bt (s := s) (i := i)
  rw [List.getD_eq_getElem?_getD, List.getElem?_eq_getElem hlt, Option.getD_some] at e
  rw [List.countP_singleton, e]
  by_cases c : bt s i < 128 ∨ 192 ≤ bt s i
  · rw [if_pos c, decide_eq_false (by omega)]; rfl
  · rw [if_neg c, decide_eq_true (by omega)]; rfl


/-- baton/labels.MayValue -/
theorem f5_spec {h : Heap} {n : Nat} (s : ByteArray) (hl : Laid0 h) (hlen : s.data.toList.length < 9223372036854775808) :
    Tells Tryd.prog 5 [.string (s)] h n (.bool (mayValueB s)) := by
  refine Makes.tells (Makes.free fun hf => ?_)
  have hs : SubBut h h ([]) := .refl _ _
  have hn : n ≤ n := Nat.le_refl _
  have hf0 := hf
  refine Makes.of_bodyV (args := [.string (s)]) (vs := [.string (s), undef, undef, undef, undef, undef, undef, undef, undef, undef, undef, undef, undef, undef, undef, undef, undef, undef, undef, undef, undef, undef, undef, undef, undef, undef, undef, undef, undef]) Tryd.func5 rfl rfl ?_
  refine AWp.seq ?_
  refine AWp.rowV (l := _) pok ?_
  refine sq.c (v := .bool false) rfl rfl rfl rfl ?_
  refine sq.e ?_
  refine AWp.seq ?_
  refine AWp.rowV (l := _) pok ?_
  refine sq.c (v := .int .i64 (0)) rfl rfl rfl rfl ?_
  refine sq.e ?_
  refine AWp.seq ?_
  refine AWp.seq ?_
  refine AWp.rowV (l := _) pok ?_
  refine sq.c (v := .string (s)) rfl rfl rfl rfl ?_
  have z_n : h.get n = none := hf0 _ hn
  refine sq.op rfl rfl (Does.range (s := s) hf (by kernel_rfl) rfl) ?_
  rintro _ h2 n3 ⟨rfl, hb1⟩ s4 hn2 hf
  refine sq.w ?_
  have hs := hs.trans s4
  have hn := Nat.le_trans hn hn2
  refine sq.e ?_
  refine AWp.block ?_
  refine AWp.loopV (fun d vs h6 n7 => ∃ (p k : Nat) (ds : List (Nat × Nat)), d = s.data.toList.length - p + 1 ∧ SubBut h h6 ([]) ∧ n ≤ n7 ∧ Free h6 n7 ∧ h6.get n = some (.siter (s) p) ∧ (k = ds.length) ∧ (ds.length ≤ 64) ∧ (decs s.data.toList = ds ++ decs (s.data.toList.drop p)) ∧ (ds.all okC = true) ∧ (p ≤ s.data.toList.length) ∧ ∃ y5 : Nat → Value, vs = [.string (s), undef, (y5 2), .int .i64 ((k : Int)), undef, (y5 5), .string (s), .pointer (some ⟨n, 0, none⟩), (y5 8), (y5 9), (y5 10), (y5 11), (y5 12), (y5 13), (y5 14), (y5 15), (y5 16), (y5 17), (y5 18), (y5 19), (y5 20), (y5 21), (y5 22), undef, undef, undef, undef, undef, undef]) (s.data.toList.length - 0 + 1) ⟨0, 0, [], rfl, hs, hn, hf, hb1, (rfl), (by simp), (by simp), (rfl), (by omega), getV [undef, undef, .bool false, undef, undef, undef, undef, undef, undef, undef, undef, undef, undef, undef, undef, undef, undef, undef, undef, undef, undef, undef, undef], rfl⟩ ?_
  rintro d vs h6 n7 ⟨p, k, ds, rfl, hs, hn, hf, hb1, hk, hk2, hr, hok, hp, y5, rfl⟩
  refine AWp.seq ?_
  refine AWp.rowV (l := _) pok ?_
  by_cases c3_0 : p < (s).data.toList.length
  · skip
    refine sq.op rfl rfl (Does.nextYes hf rfl hb1 c3_0) ?_
    rintro _ h10 n11 ⟨rfl, hb8⟩ s12 hn2 hf
    refine sq.w ?_
    have hs := hs.fresh z_n s12
    have hn := Nat.le_trans hn hn2
    refine sq.c (v := .bool true) rfl rfl rfl rfl ?_
    refine sq.e ?_
    refine AWp.seq ?_
    refine AWp.condT rfl rfl ?_
    refine AWp.skip ?_
    refine AWp.block ?_
    refine AWp.seq ?_
    refine AWp.rowV (l := _) pok ?_
    refine sq.c (v := .int .i32 ((Utf8.decode (s) p).1)) rfl rfl rfl rfl ?_
    refine sq.c (v := .int .i32 ((Utf8.decode (s) p).1)) rfl rfl rfl rfl ?_
    refine sq.e ?_
    refine AWp.seq ?_
    refine AWp.rowV (l := _) pok ?_
    refine sq.c (v := .int .i64 ((k : Int))) rfl rfl rfl rfl ?_
    refine sq.c (v := .int .i64 (((k : Int)) + 1)) rfl rfl (okI (wrap_i64 (by omega) (by omega))) rfl ?_
    refine sq.c (v := .int .i64 (((k : Int)) + 1)) rfl rfl rfl rfl ?_
    refine sq.e ?_
    refine AWp.seq ?_
    refine AWp.rowV (l := _) pok ?_
    refine sq.c (v := .int .i64 (((k : Int)) + 1)) rfl rfl rfl rfl ?_
    refine sq.c (v := .bool (decide ((64 : Int) < (((k : Int)) + 1)))) rfl rfl rfl rfl ?_
    refine sq.c (v := .bool (decide ((64 : Int) < (((k : Int)) + 1)))) rfl rfl rfl rfl ?_
    by_cases c6_1 : (64 : Int) < (((k : Int)) + 1)
    · rw [decide_eq_true c6_1]
      refine sq.s (wantF (g := 2) (d := 15) rfl rfl rfl) rfl ?_
      refine sq.s (wantF (g := 2) (d := 15) rfl rfl rfl) rfl ?_
      refine sq.c (v := .bool true) rfl rfl rfl rfl ?_
      refine sq.c (v := .bool true) rfl rfl rfl rfl ?_
      refine sq.s (wantF (g := 6) (d := 19) rfl rfl rfl) rfl ?_
      refine sq.s (wantF (g := 6) (d := 19) rfl rfl rfl) rfl ?_
      refine sq.c (v := .bool true) rfl rfl rfl rfl ?_
      refine sq.e ?_
      refine AWp.condT rfl rfl ?_
      refine AWp.seq ?_
      refine AWp.rowV (l := _) pok ?_
      refine sq.c (v := .bool false) rfl rfl rfl rfl ?_
      refine sq.e ?_
      refine AWp.ret ?_
      -- end 1: L3 c3_0 c6_1
      refine ⟨rfl, [.bool false], rfl, .bool false, rfl, hs, hn, ?_⟩
      show Value.bool false = .bool (mayValueL s.data.toList)
      rw [mv_long (hr.trans (by rw [(decode_step s p c3_0).1])) (by omega)]
    · rw [decide_eq_false c6_1]
      refine sq.c (v := .int .i32 ((Utf8.decode (s) p).1)) (wantT (g := 2) (d := 15) rfl rfl rfl) rfl rfl rfl ?_
      refine sq.c (v := .bool (decide (((Utf8.decode (s) p).1) < (32 : Int)))) (wantT (g := 2) (d := 15) rfl rfl rfl) rfl rfl rfl ?_
      refine sq.c (v := .bool (decide (((Utf8.decode (s) p).1) < (32 : Int)))) rfl rfl rfl rfl ?_
      refine sq.c (v := .bool (decide (((Utf8.decode (s) p).1) < (32 : Int)))) rfl rfl rfl rfl ?_
      by_cases c6_4 : ((Utf8.decode (s) p).1) < (32 : Int)
      · rw [decide_eq_true c6_4]
        refine sq.s (wantF (g := 6) (d := 19) rfl rfl rfl) rfl ?_
        refine sq.s (wantF (g := 6) (d := 19) rfl rfl rfl) rfl ?_
        refine sq.c (v := .bool true) rfl rfl rfl rfl ?_
        refine sq.e ?_
        refine AWp.condT rfl rfl ?_
        refine AWp.seq ?_
        refine AWp.rowV (l := _) pok ?_
        refine sq.c (v := .bool false) rfl rfl rfl rfl ?_
        refine sq.e ?_
        refine AWp.ret ?_
        -- end 2: L3 c3_0 ¬c6_1 c6_4
        refine ⟨rfl, [.bool false], rfl, .bool false, rfl, hs, hn, ?_⟩
        show Value.bool false = .bool (mayValueL s.data.toList)
        rw [mv_bad (hr.trans (by rw [(decode_step s p c3_0).1])) (by simp [okC]; omega)]
      · rw [decide_eq_false c6_4]
        refine sq.c (v := .int .i32 ((Utf8.decode (s) p).1)) (wantT (g := 6) (d := 19) rfl rfl rfl) rfl rfl rfl ?_
        refine sq.c (v := .bool (decide (((Utf8.decode (s) p).1) = (127 : Int)))) (wantT (g := 6) (d := 19) rfl rfl rfl) rfl rfl rfl ?_
        refine sq.c (v := .bool (decide (((Utf8.decode (s) p).1) = (127 : Int)))) rfl rfl rfl rfl ?_
        refine sq.e ?_
        by_cases c6_8 : ((Utf8.decode (s) p).1) = (127 : Int)
        · rw [decide_eq_true c6_8]
          refine AWp.condT rfl rfl ?_
          refine AWp.seq ?_
          refine AWp.rowV (l := _) pok ?_
          refine sq.c (v := .bool false) rfl rfl rfl rfl ?_
          refine sq.e ?_
          refine AWp.ret ?_
          -- end 3: L3 c3_0 ¬c6_1 ¬c6_4 c6_8
          refine ⟨rfl, [.bool false], rfl, .bool false, rfl, hs, hn, ?_⟩
          show Value.bool false = .bool (mayValueL s.data.toList)
          rw [mv_bad (hr.trans (by rw [(decode_step s p c3_0).1])) (by simp [okC]; omega)]
        · rw [decide_eq_false c6_8]
          refine AWp.condF rfl rfl ?_
          refine AWp.skip ?_
          obtain ⟨q1, q2, q3⟩ := decode_step s p c3_0
          refine ⟨_, _, rfl, by omega, _, k + 1, ds ++ [Utf8.decode s p], rfl, hs, hn, hf, hb8, (by simp [hk]), (by simp; omega), (by rw [hr, q1]; simp), (by rw [List.all_append, hok]; simp [okC]; omega), (by omega), getV [undef, undef, (y5 2), undef, undef, .int .i32 ((Utf8.decode (s) p).1), undef, undef, .tuple #[.bool true, .int .i64 (p), .int .i32 ((Utf8.decode (s) p).1)], .bool true, .int .i32 ((Utf8.decode (s) p).1), .int .i64 ((k : Int)), .int .i64 (((k : Int)) + 1), .int .i64 (((k : Int)) + 1), .bool false, .bool false, .int .i32 ((Utf8.decode (s) p).1), .bool false, .bool false, .bool false, .int .i32 ((Utf8.decode (s) p).1), .bool false, .bool false], rfl⟩
  · skip
    refine sq.op rfl rfl (Does.nextNo hf rfl hb1 c3_0) ?_
    rintro _ h13 n14 rfl s15 hn2 hf
    refine sq.w ?_
    have hb1 := s15.sub _ _ hb1
    have hs := hs.trans s15
    have hn := Nat.le_trans hn hn2
    refine sq.c (v := .bool false) rfl rfl rfl rfl ?_
    refine sq.e ?_
    refine AWp.seq ?_
    refine AWp.condF rfl rfl ?_
    refine AWp.exit ?_
    refine AWp.seq ?_
    refine AWp.rowV (l := _) pok ?_
    refine sq.c (v := .int .i64 ((k : Int))) rfl rfl rfl rfl ?_
    refine sq.c (v := .bool (decide ((0 : Int) < ((k : Int))))) rfl rfl rfl rfl ?_
    refine sq.c (v := .bool (decide ((0 : Int) < ((k : Int))))) rfl rfl rfl rfl ?_
    by_cases c8_1 : (0 : Int) < ((k : Int))
    · rw [decide_eq_true c8_1]
      refine sq.c (v := .string (s)) (wantT (g := 2) (d := 25) rfl rfl rfl) rfl rfl rfl ?_
      refine sq.t (v := .bool (Lib.validD s.data.toList)) (wantT (g := 2) (d := 25) rfl rfl rfl) (CallsF.fn rfl (by kernel_rfl) rfl rfl) (fun hf => f12_spec _ (hl.keep hs) hlen) hf rfl ?_
      intro n16 hn2 hf
      have hn := Nat.le_trans hn hn2
      refine sq.c (v := .bool (Lib.validD s.data.toList)) rfl rfl rfl rfl ?_
      refine sq.c (v := .bool (Lib.validD s.data.toList)) rfl rfl rfl rfl ?_
      refine sq.e ?_
      refine AWp.ret ?_
      -- end 4: L3 ¬c3_0 c8_1
      refine ⟨rfl, [.bool (Lib.validD s.data.toList)], rfl, .bool (Lib.validD s.data.toList), rfl, hs, hn, ?_⟩
      show Value.bool (Lib.validD s.data.toList) = .bool (mayValueL s.data.toList)
      have hd : s.data.toList.drop p = [] := List.drop_eq_nil_of_le (by omega)
      rw [hd, decs_nil, List.append_nil] at hr
      rw [mv_end hr hok hk2, decide_eq_true (show 0 < ds.length by omega)]; rfl
    · rw [decide_eq_false c8_1]
      refine sq.s (wantF (g := 2) (d := 25) rfl rfl rfl) rfl ?_
      refine sq.s (wantF (g := 2) (d := 25) rfl rfl rfl) rfl ?_
      refine sq.c (v := .bool false) rfl rfl rfl rfl ?_
      refine sq.c (v := .bool false) rfl rfl rfl rfl ?_
      refine sq.e ?_
      refine AWp.ret ?_
      -- end 5: L3 ¬c3_0 ¬c8_1
      refine ⟨rfl, [.bool false], rfl, .bool false, rfl, hs, hn, ?_⟩
      show Value.bool false = .bool (mayValueL s.data.toList)
      have hd : s.data.toList.drop p = [] := List.drop_eq_nil_of_le (by omega)
      rw [hd, decs_nil, List.append_nil] at hr
      rw [mv_end hr hok hk2, decide_eq_false (show ¬ 0 < ds.length by omega)]; rfl

/-- baton/batonlaw05.starts -/
theorem f6_spec {h : Heap} {n : Nat} (s : ByteArray) (hlen : s.data.toList.length < 9223372036854775807) :
    Tells Tryd.prog 6 [.string (s)] h n (.int .i64 ((startsN s.data.toList : Nat) : Int)) := by
  refine Makes.tells (Makes.free fun hf => ?_)
  have hs : SubBut h h ([]) := .refl _ _
  have hn : n ≤ n := Nat.le_refl _
  have hf0 := hf
  refine Makes.of_bodyV (args := [.string (s)]) (vs := [.string (s), undef, undef, undef, undef, undef, undef, undef, undef, undef, undef, undef, undef, undef, undef, undef, undef, undef, undef, undef, undef, undef, undef, undef]) Tryd.func6 rfl rfl ?_
  refine AWp.seq ?_
  refine AWp.rowV (l := _) pok ?_
  refine sq.c (v := .int .i64 (0)) rfl rfl rfl rfl ?_
  refine sq.e ?_
  refine AWp.seq ?_
  refine AWp.rowV (l := _) pok ?_
  refine sq.c (v := .int .i64 (0)) rfl rfl rfl rfl ?_
  refine sq.e ?_
  refine AWp.seq ?_
  refine AWp.seq ?_
  refine AWp.rowV (l := _) pok ?_
  refine sq.c (v := .int .i64 (0)) rfl rfl rfl rfl ?_
  refine sq.e ?_
  refine AWp.block ?_
  refine AWp.loopV (fun d vs h' n2 => ∃ (i k : Int), d = ((s.data.toList.length : Nat) - i + 1).toNat ∧ h = h' ∧ n ≤ n2 ∧ Free h n2 ∧ (0 ≤ i) ∧ (i ≤ (s.data.toList.length : Nat)) ∧ (k = (startsN (s.data.toList.take i.toNat) : Nat)) ∧ (0 ≤ k) ∧ (k ≤ i) ∧ ∃ y1 : Nat → Value, vs = [.string (s), undef, .int .i64 (0), .int .i64 (k), .int .i64 (i), (y1 5), (y1 6), (y1 7), (y1 8), (y1 9), (y1 10), (y1 11), (y1 12), (y1 13), (y1 14), (y1 15), (y1 16), (y1 17), (y1 18), (y1 19), (y1 20), (y1 21), (y1 22), undef]) (((s.data.toList.length : Nat) - (0 : Int) + 1).toNat) ⟨0, 0, rfl, rfl, hn, hf, (by omega), (by omega), (rfl), (by omega), (by omega), getV [undef, undef, undef, undef, undef, undef, undef, undef, undef, undef, undef, undef, undef, undef, undef, undef, undef, undef, undef, undef, undef, undef, undef], rfl⟩ ?_
  rintro d vs h' n2 ⟨i, k, rfl, rfl, hn, hf, hi0, hi1, hk, hk0, hk1, y1, rfl⟩
  refine AWp.seq ?_
  refine AWp.seq ?_
  refine AWp.rowV (l := _) pok ?_
  refine sq.c (v := .int .i64 (i)) rfl rfl rfl rfl ?_
  refine sq.c (v := .string (s)) rfl rfl rfl rfl ?_
  refine sq.c (v := .int .i64 ((((s).data.toList.length : Nat) : Int))) rfl rfl (by kernel_rfl) rfl ?_
  refine sq.c (v := .bool (decide (i < ((((s).data.toList.length : Nat) : Int))))) rfl rfl rfl rfl ?_
  refine sq.e ?_
  by_cases c3_3 : i < ((((s).data.toList.length : Nat) : Int))
  · rw [decide_eq_true c3_3]
    refine AWp.condT rfl rfl ?_
    refine AWp.skip ?_
    refine AWp.seq ?_
    refine AWp.block ?_
    refine AWp.seq ?_
    refine AWp.rowV (l := _) pok ?_
    refine sq.c (v := .string (s)) rfl rfl rfl rfl ?_
    refine sq.c (v := .int .i64 (i)) rfl rfl rfl rfl ?_
    refine sq.c (v := .int .u8 (bt (s) (i))) rfl rfl (index_str (P := Tryd.prog) (t := 9) (s := s) (i := i) (k := .i64) (by kernel_rfl) (by omega) (by omega)) rfl ?_
    refine sq.c (v := .bool (decide ((bt (s) (i)) < (128 : Int)))) rfl rfl rfl rfl ?_
    refine sq.c (v := .bool (decide ((bt (s) (i)) < (128 : Int)))) rfl rfl rfl rfl ?_
    by_cases c5_3 : (bt (s) (i)) < (128 : Int)
    · rw [decide_eq_true c5_3]
      refine sq.s (wantF (g := 4) (d := 15) rfl rfl rfl) rfl ?_
      refine sq.s (wantF (g := 4) (d := 15) rfl rfl rfl) rfl ?_
      refine sq.s (wantF (g := 4) (d := 15) rfl rfl rfl) rfl ?_
      refine sq.s (wantF (g := 4) (d := 15) rfl rfl rfl) rfl ?_
      refine sq.c (v := .bool true) rfl rfl rfl rfl ?_
      refine sq.e ?_
      refine AWp.condT rfl rfl ?_
      refine AWp.rowV (l := _) pok ?_
      refine sq.c (v := .int .i64 (k)) rfl rfl rfl rfl ?_
      refine sq.c (v := .int .i64 (k + 1)) rfl rfl (okI (wrap_i64 (by omega) (by omega))) rfl ?_
      refine sq.c (v := .int .i64 (k + 1)) rfl rfl rfl rfl ?_
      refine sq.e ?_
      refine AWp.rowV (l := _) pok ?_
      refine sq.c (v := .int .i64 (i)) rfl rfl rfl rfl ?_
      refine sq.c (v := .int .i64 (i + 1)) rfl rfl (okI (wrap_i64 (by omega) (by omega))) rfl ?_
      refine sq.c (v := .int .i64 (i + 1)) rfl rfl rfl rfl ?_
      refine sq.e ?_
      have hst := starts_step hi0 c3_3
      rw [if_pos (by omega)] at hst
      refine ⟨_, _, rfl, by omega, i + 1, k + 1, rfl, rfl, hn, hf, (by omega), (by omega), (by omega), (by omega), (by omega), getV [undef, undef, undef, undef, undef, .int .i64 (i), .string (s), .int .i64 ((((s).data.toList.length : Nat) : Int)), .bool true, .int .i64 (i), .int .i64 (i + 1), .string (s), .int .i64 (i), .int .u8 (bt (s) (i)), .bool true, .bool true, undef, undef, undef, undef, .bool true, .int .i64 (k), .int .i64 (k + 1)], rfl⟩
    · rw [decide_eq_false c5_3]
      refine sq.c (v := .string (s)) (wantT (g := 4) (d := 15) rfl rfl rfl) rfl rfl rfl ?_
      refine sq.c (v := .int .i64 (i)) (wantT (g := 4) (d := 15) rfl rfl rfl) rfl rfl rfl ?_
      refine sq.c (v := .int .u8 (bt (s) (i))) (wantT (g := 4) (d := 15) rfl rfl rfl) rfl (index_str (P := Tryd.prog) (t := 9) (s := s) (i := i) (k := .i64) (by kernel_rfl) (by omega) (by omega)) rfl ?_
      refine sq.c (v := .bool (decide ((192 : Int) ≤ (bt (s) (i))))) (wantT (g := 4) (d := 15) rfl rfl rfl) rfl rfl rfl ?_
      refine sq.c (v := .bool (decide ((192 : Int) ≤ (bt (s) (i))))) rfl rfl rfl rfl ?_
      refine sq.e ?_
      by_cases c5_8 : (192 : Int) ≤ (bt (s) (i))
      · rw [decide_eq_true c5_8]
        refine AWp.condT rfl rfl ?_
        refine AWp.rowV (l := _) pok ?_
        refine sq.c (v := .int .i64 (k)) rfl rfl rfl rfl ?_
        refine sq.c (v := .int .i64 (k + 1)) rfl rfl (okI (wrap_i64 (by omega) (by omega))) rfl ?_
        refine sq.c (v := .int .i64 (k + 1)) rfl rfl rfl rfl ?_
        refine sq.e ?_
        refine AWp.rowV (l := _) pok ?_
        refine sq.c (v := .int .i64 (i)) rfl rfl rfl rfl ?_
        refine sq.c (v := .int .i64 (i + 1)) rfl rfl (okI (wrap_i64 (by omega) (by omega))) rfl ?_
        refine sq.c (v := .int .i64 (i + 1)) rfl rfl rfl rfl ?_
        refine sq.e ?_
        have hst := starts_step hi0 c3_3
        rw [if_pos (by omega)] at hst
        refine ⟨_, _, rfl, by omega, i + 1, k + 1, rfl, rfl, hn, hf, (by omega), (by omega), (by omega), (by omega), (by omega), getV [undef, undef, undef, undef, undef, .int .i64 (i), .string (s), .int .i64 ((((s).data.toList.length : Nat) : Int)), .bool true, .int .i64 (i), .int .i64 (i + 1), .string (s), .int .i64 (i), .int .u8 (bt (s) (i)), .bool false, .bool false, .string (s), .int .i64 (i), .int .u8 (bt (s) (i)), .bool true, .bool true, .int .i64 (k), .int .i64 (k + 1)], rfl⟩
      · rw [decide_eq_false c5_8]
        refine AWp.condF rfl rfl ?_
        refine AWp.skip ?_
        refine AWp.rowV (l := _) pok ?_
        refine sq.c (v := .int .i64 (i)) rfl rfl rfl rfl ?_
        refine sq.c (v := .int .i64 (i + 1)) rfl rfl (okI (wrap_i64 (by omega) (by omega))) rfl ?_
        refine sq.c (v := .int .i64 (i + 1)) rfl rfl rfl rfl ?_
        refine sq.e ?_
        have hst := starts_step hi0 c3_3
        rw [if_neg (by omega)] at hst
        refine ⟨_, _, rfl, by omega, i + 1, k, rfl, rfl, hn, hf, (by omega), (by omega), (by omega), (by omega), (by omega), getV [undef, undef, undef, undef, undef, .int .i64 (i), .string (s), .int .i64 ((((s).data.toList.length : Nat) : Int)), .bool true, .int .i64 (i), .int .i64 (i + 1), .string (s), .int .i64 (i), .int .u8 (bt (s) (i)), .bool false, .bool false, .string (s), .int .i64 (i), .int .u8 (bt (s) (i)), .bool false, .bool false, (y1 21), (y1 22)], rfl⟩
  · rw [decide_eq_false c3_3]
    refine AWp.condF rfl rfl ?_
    refine AWp.exit ?_
    refine AWp.seq ?_
    refine AWp.rowV (l := _) pok ?_
    refine sq.c (v := .int .i64 (k)) rfl rfl rfl rfl ?_
    refine sq.c (v := .int .i64 (k)) rfl rfl rfl rfl ?_
    refine sq.e ?_
    refine AWp.ret ?_
    -- end 1: L3 ¬c3_3
    refine ⟨rfl, [.int .i64 (k)], rfl, .int .i64 (k), rfl, hs, hn, ?_⟩
    rw [show i.toNat = s.data.toList.length by omega, List.take_length] at hk
    rw [hk]

end Go.Proofs.YtkpjfibpaojelaaDoor
