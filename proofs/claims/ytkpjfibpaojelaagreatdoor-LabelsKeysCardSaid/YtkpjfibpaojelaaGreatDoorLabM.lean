/- labels: MayValue of the document, May of both. -/
import Derived.Test.YtkpjfibpaojelaaGreatDoorLabRune
import Derived.Test.YtkpjfibpaojelaaGreatDoorLabV
import Derived.Test.YtkpjfibpaojelaaGreatDoorLabW
namespace Go.Proofs.YtkpjfibpaojelaaGreatDoor
open Go Go.Abs
set_option maxRecDepth 100000
set_option maxHeartbeats 4000000

theorem f40_at {h : Heap} {n : Nat} {s : ByteArray} {a : Int} (hlen : s.data.toList.length < 9223372036854775808) (h0 : 0 ≤ a) (h1 : a < ((s.data.toList.length : Nat) : Int)) :
    Tells Tryz.prog 40 [.string (sub s a (s.data.toList.length : Nat))] h n (.tuple #[.int .i64 ((zz (Utf8.decode s a.toNat)).1 : Nat), .int .i64 ((zz (Utf8.decode s a.toNat)).2 : Nat)]) := by
  rw [← rune_at h0 h1]
  exact f40_spec _ (by
    have e : (sub s a (s.data.toList.length : Nat)).data.toList.length ≤ s.data.toList.length := by
      simp only [sub, sliceS, List.length_take, List.length_drop]
      omega
    omega)


/-- baton/batonref05.MayValue -/
theorem f23_spec {h : Heap} {n : Nat} (s : ByteArray) (hlen : s.data.toList.length < 9223372036854775808) :
    Tells Tryz.prog 23 [.string (s)] h n (.bool (mayValueB s)) := by
  refine Makes.tells (Makes.free fun hf => ?_)
  have hs : SubBut h h [] := .refl _ _
  have hn : n ≤ n := Nat.le_refl _
  have hf0 := hf
  refine Makes.of_bodyV (args := [.string (s)]) (vs := [.string (s), undef, undef, undef, undef, undef, undef, undef, undef, undef, undef, undef, undef, undef, undef, undef, undef, undef, undef, undef, undef, undef, undef, undef, undef, undef, undef, undef, undef, undef, undef, undef, undef, undef, undef, undef, undef, undef, undef]) Tryz.func23 rfl rfl ?_
  refine AWp.seq ?_
  refine AWp.rowV (l := _) pok ?_
  refine sq.c (v := .bool false) rfl rfl rfl rfl ?_
  refine sq.e ?_
  refine AWp.seq ?_
  refine AWp.rowV (l := _) pok ?_
  refine sq.c (v := .int .i64 (0)) rfl rfl rfl rfl ?_
  refine sq.e ?_
  refine AWp.seq ?_
  refine AWp.seq ?_
  refine AWp.rowV (l := _) pok ?_
  refine sq.c (v := .int .i64 (0)) rfl rfl rfl rfl ?_
  refine sq.e ?_
  refine AWp.block ?_
  refine AWp.loopV (fun d vs h' n2 => ∃ (a k : Int) (ds : List (Nat × Nat)), d = ((s.data.toList.length : Nat) - a + 1).toNat ∧ h = h' ∧ n ≤ n2 ∧ Free h n2 ∧ (0 ≤ a) ∧ (a ≤ (s.data.toList.length : Nat)) ∧ (k = (ds.length : Nat)) ∧ (k ≤ a) ∧ (decs s.data.toList = ds ++ decs (s.data.toList.drop a.toNat)) ∧ (ds.all okD = true) ∧ ∃ y1 : Nat → Value, vs = [.string (s), undef, (y1 2), .int .i64 (k), .int .i64 (a), (y1 5), (y1 6), (y1 7), (y1 8), (y1 9), (y1 10), (y1 11), (y1 12), (y1 13), (y1 14), (y1 15), (y1 16), (y1 17), (y1 18), (y1 19), (y1 20), (y1 21), (y1 22), (y1 23), (y1 24), (y1 25), (y1 26), (y1 27), (y1 28), (y1 29), (y1 30), (y1 31), (y1 32), undef, undef, undef, undef, undef, undef]) (((s.data.toList.length : Nat) - (0 : Int) + 1).toNat) ⟨0, 0, [], rfl, rfl, hn, hf, (by omega), (by omega), (rfl), (by omega), (by simp), (rfl), getV [undef, undef, .bool false, undef, undef, undef, undef, undef, undef, undef, undef, undef, undef, undef, undef, undef, undef, undef, undef, undef, undef, undef, undef, undef, undef, undef, undef, undef, undef, undef, undef, undef, undef], rfl⟩ ?_
  rintro d vs h' n2 ⟨a, k, ds, rfl, rfl, hn, hf, ha0, ha1, hk, hka, hr, hok, y1, rfl⟩
  refine AWp.seq ?_
  refine AWp.seq ?_
  refine AWp.rowV (l := _) pok ?_
  refine sq.c (v := .int .i64 (a)) rfl rfl rfl rfl ?_
  refine sq.c (v := .string (s)) rfl rfl rfl rfl ?_
  refine sq.c (v := .int .i64 ((s).data.toList.length)) rfl rfl (by kernel_rfl) rfl ?_
  refine sq.c (v := .bool (decide (a < (((s).data.toList.length : Nat) : Int)))) rfl rfl rfl rfl ?_
  refine sq.e ?_
  by_cases c3_3 : a < (((s).data.toList.length : Nat) : Int)
  · rw [decide_eq_true c3_3]
    refine AWp.condT rfl rfl ?_
    refine AWp.skip ?_
    refine AWp.block ?_
    refine AWp.seq ?_
    refine AWp.rowV (l := _) pok ?_
    refine sq.c (v := .string (s)) rfl rfl rfl rfl ?_
    refine sq.c (v := .int .i64 (a)) rfl rfl rfl rfl ?_
    refine sq.c (v := .string (sub (s) (a) ((s).data.toList.length))) rfl rfl (slice_str (P := Tryz.prog) (h := h) (t := 9) (s := s) (l := a) (u := (s).data.toList.length) (by kernel_rfl) (.inr ⟨_, rfl⟩) (.inl ⟨rfl, rfl⟩) (by omega) (by omega) (by omega)) rfl ?_
    refine sq.t (v := .tuple #[.int .i64 (((zz (Utf8.decode s a.toNat)).1 : Nat)), .int .i64 (((zz (Utf8.decode s a.toNat)).2 : Nat))]) rfl (CallsF.fn rfl (by kernel_rfl) rfl rfl) (fun hf => f40_at hlen ha0 c3_3) hf rfl ?_
    intro n3 hn2 hf
    have hn := Nat.le_trans hn hn2
    refine sq.c (v := .tuple #[.int .i64 (((zz (Utf8.decode s a.toNat)).1 : Nat)), .int .i64 (((zz (Utf8.decode s a.toNat)).2 : Nat))]) rfl rfl rfl rfl ?_
    refine sq.c (v := .int .i64 (((zz (Utf8.decode s a.toNat)).1 : Nat))) rfl rfl rfl rfl ?_
    refine sq.c (v := .int .i64 (((zz (Utf8.decode s a.toNat)).2 : Nat))) rfl rfl rfl rfl ?_
    refine sq.c (v := .int .i64 (((zz (Utf8.decode s a.toNat)).1 : Nat))) rfl rfl rfl rfl ?_
    refine sq.c (v := .int .i64 (((zz (Utf8.decode s a.toNat)).2 : Nat))) rfl rfl rfl rfl ?_
    refine sq.e ?_
    refine AWp.seq ?_
    refine AWp.seq ?_
    refine AWp.rowV (l := _) pok ?_
    refine sq.c (v := .int .i64 (((zz (Utf8.decode s a.toNat)).2 : Nat))) rfl rfl rfl rfl ?_
    refine sq.c (v := .bool (decide ((((zz (Utf8.decode s a.toNat)).2 : Nat)) = (0 : Int)))) rfl rfl rfl rfl ?_
    refine sq.c (v := .bool (decide ((((zz (Utf8.decode s a.toNat)).2 : Nat)) = (0 : Int)))) rfl rfl rfl rfl ?_
    by_cases c5_1 : (((zz (Utf8.decode s a.toNat)).2 : Nat)) = (0 : Int)
    · rw [decide_eq_true c5_1]
      refine sq.s (wantF (g := 2) (d := 20) rfl rfl rfl) rfl ?_
      refine sq.s (wantF (g := 2) (d := 20) rfl rfl rfl) rfl ?_
      refine sq.c (v := .bool true) rfl rfl rfl rfl ?_
      refine sq.c (v := .bool true) rfl rfl rfl rfl ?_
      refine sq.s (wantF (g := 6) (d := 24) rfl rfl rfl) rfl ?_
      refine sq.s (wantF (g := 6) (d := 24) rfl rfl rfl) rfl ?_
      refine sq.c (v := .bool true) rfl rfl rfl rfl ?_
      refine sq.e ?_
      refine AWp.condT rfl rfl ?_
      refine AWp.seq ?_
      refine AWp.rowV (l := _) pok ?_
      refine sq.c (v := .bool false) rfl rfl rfl rfl ?_
      refine sq.e ?_
      refine AWp.ret ?_
      -- end 1: L3 c3_3 c5_1
      refine ⟨rfl, [.bool false], rfl, .bool false, rfl, hs, hn, ?_⟩
      show Value.bool false = .bool (mayValueL s.data.toList)
      obtain ⟨q1, q2, q3⟩ := decode_step s a.toNat (by omega)
      have hd : okD (Utf8.decode s a.toNat) = false := by
        have e : zz (Utf8.decode s a.toNat) ≠ Utf8.decode s a.toNat := by
          intro e; rw [e] at c5_1; omega
        have e2 : Utf8.decode s a.toNat = (65533, 1) := by
          by_cases e3 : Utf8.decode s a.toNat = (65533, 1)
          · exact e3
          · exfalso; apply e; unfold zz; rw [if_neg e3]
        rw [e2]; rfl
      rw [mv_badD (hr.trans (by rw [q1])) hd]
    · rw [decide_eq_false c5_1]
      refine sq.c (v := .int .i64 (((zz (Utf8.decode s a.toNat)).1 : Nat))) (wantT (g := 2) (d := 20) rfl rfl rfl) rfl rfl rfl ?_
      refine sq.c (v := .bool (decide ((((zz (Utf8.decode s a.toNat)).1 : Nat)) < (32 : Int)))) (wantT (g := 2) (d := 20) rfl rfl rfl) rfl rfl rfl ?_
      refine sq.c (v := .bool (decide ((((zz (Utf8.decode s a.toNat)).1 : Nat)) < (32 : Int)))) rfl rfl rfl rfl ?_
      refine sq.c (v := .bool (decide ((((zz (Utf8.decode s a.toNat)).1 : Nat)) < (32 : Int)))) rfl rfl rfl rfl ?_
      by_cases c5_4 : (((zz (Utf8.decode s a.toNat)).1 : Nat)) < (32 : Int)
      · rw [decide_eq_true c5_4]
        refine sq.s (wantF (g := 6) (d := 24) rfl rfl rfl) rfl ?_
        refine sq.s (wantF (g := 6) (d := 24) rfl rfl rfl) rfl ?_
        refine sq.c (v := .bool true) rfl rfl rfl rfl ?_
        refine sq.e ?_
        refine AWp.condT rfl rfl ?_
        refine AWp.seq ?_
        refine AWp.rowV (l := _) pok ?_
        refine sq.c (v := .bool false) rfl rfl rfl rfl ?_
        refine sq.e ?_
        refine AWp.ret ?_
        -- end 2: L3 c3_3 ¬c5_1 c5_4
        refine ⟨rfl, [.bool false], rfl, .bool false, rfl, hs, hn, ?_⟩
        show Value.bool false = .bool (mayValueL s.data.toList)
        obtain ⟨q1, q2, q3⟩ := decode_step s a.toNat (by omega)
        obtain ⟨z1, z2⟩ := zz_of c5_1
        rw [z1] at c5_4
        rw [mv_badD (hr.trans (by rw [q1])) (by unfold okD; simp; omega)]
      · rw [decide_eq_false c5_4]
        refine sq.c (v := .int .i64 (((zz (Utf8.decode s a.toNat)).1 : Nat))) (wantT (g := 6) (d := 24) rfl rfl rfl) rfl rfl rfl ?_
        refine sq.c (v := .bool (decide ((((zz (Utf8.decode s a.toNat)).1 : Nat)) = (127 : Int)))) (wantT (g := 6) (d := 24) rfl rfl rfl) rfl rfl rfl ?_
        refine sq.c (v := .bool (decide ((((zz (Utf8.decode s a.toNat)).1 : Nat)) = (127 : Int)))) rfl rfl rfl rfl ?_
        refine sq.e ?_
        by_cases c5_8 : (((zz (Utf8.decode s a.toNat)).1 : Nat)) = (127 : Int)
        · rw [decide_eq_true c5_8]
          refine AWp.condT rfl rfl ?_
          refine AWp.seq ?_
          refine AWp.rowV (l := _) pok ?_
          refine sq.c (v := .bool false) rfl rfl rfl rfl ?_
          refine sq.e ?_
          refine AWp.ret ?_
          -- end 3: L3 c3_3 ¬c5_1 ¬c5_4 c5_8
          refine ⟨rfl, [.bool false], rfl, .bool false, rfl, hs, hn, ?_⟩
          show Value.bool false = .bool (mayValueL s.data.toList)
          obtain ⟨q1, q2, q3⟩ := decode_step s a.toNat (by omega)
          obtain ⟨z1, z2⟩ := zz_of c5_1
          rw [z1] at c5_8
          rw [mv_badD (hr.trans (by rw [q1])) (by unfold okD; simp; omega)]
        · rw [decide_eq_false c5_8]
          refine AWp.condF rfl rfl ?_
          refine AWp.skip ?_
          refine AWp.seq ?_
          refine AWp.rowV (l := _) pok ?_
          refine sq.c (v := .int .i64 (a)) rfl rfl rfl rfl ?_
          refine sq.c (v := .int .i64 (((zz (Utf8.decode s a.toNat)).2 : Nat))) rfl rfl rfl rfl ?_
          refine sq.c (v := .int .i64 (a + (((zz (Utf8.decode s a.toNat)).2 : Nat)))) rfl rfl (okI (wrap_i64 (by have := (decode_step s a.toNat (by omega)).2.1; obtain ⟨z1, z2⟩ := zz_of c5_1; rw [z1]; omega) (by have := (decode_step s a.toNat (by omega)).2.1; obtain ⟨z1, z2⟩ := zz_of c5_1; rw [z1]; omega))) rfl ?_
          refine sq.c (v := .int .i64 (a + (((zz (Utf8.decode s a.toNat)).2 : Nat)))) rfl rfl rfl rfl ?_
          refine sq.e ?_
          refine AWp.rowV (l := _) pok ?_
          refine sq.c (v := .int .i64 (k)) rfl rfl rfl rfl ?_
          refine sq.c (v := .int .i64 (k + 1)) rfl rfl (okI (wrap_i64 (by omega) (by omega))) rfl ?_
          refine sq.c (v := .int .i64 (k + 1)) rfl rfl rfl rfl ?_
          refine sq.e ?_
          obtain ⟨q1, q2, q3⟩ := decode_step s a.toNat (by omega)
          obtain ⟨z1, z2⟩ := zz_of c5_1
          have e1 : (a + ((zz (Utf8.decode s a.toNat)).2 : Nat)).toNat = a.toNat + (Utf8.decode s a.toNat).2 := by rw [z1]; omega
          have hb : okD (Utf8.decode s a.toNat) = true := by
            rw [z1] at c5_4 c5_8
            unfold okD
            simp only [Bool.and_eq_true, bne_iff_ne, ne_eq, decide_eq_true_eq]
            exact ⟨⟨z2, by omega⟩, by omega⟩
          refine ⟨_, _, rfl, by rw [z1]; omega, _, _, ds ++ [Utf8.decode s a.toNat], rfl, rfl, hn, hf, (by rw [z1]; omega), (by rw [z1]; omega), (by rw [hk]; simp), (by rw [z1]; omega), (by rw [hr, q1, e1]; simp), (by rw [List.all_append, hok]; simp [hb]), getV [undef, undef, (y1 2), undef, undef, .int .i64 (((zz (Utf8.decode s a.toNat)).1 : Nat)), .int .i64 (((zz (Utf8.decode s a.toNat)).2 : Nat)), .int .i64 (a), .string (s), .int .i64 ((s).data.toList.length), .bool true, .tuple #[.int .i64 (((zz (Utf8.decode s a.toNat)).1 : Nat)), .int .i64 (((zz (Utf8.decode s a.toNat)).2 : Nat))], .string (s), .int .i64 (a), .string (sub (s) (a) ((s).data.toList.length)), .tuple #[.int .i64 (((zz (Utf8.decode s a.toNat)).1 : Nat)), .int .i64 (((zz (Utf8.decode s a.toNat)).2 : Nat))], .int .i64 (((zz (Utf8.decode s a.toNat)).1 : Nat)), .int .i64 (((zz (Utf8.decode s a.toNat)).2 : Nat)), .int .i64 (((zz (Utf8.decode s a.toNat)).2 : Nat)), .bool false, .bool false, .int .i64 (((zz (Utf8.decode s a.toNat)).1 : Nat)), .bool false, .bool false, .bool false, .int .i64 (((zz (Utf8.decode s a.toNat)).1 : Nat)), .bool false, .bool false, .int .i64 (a), .int .i64 (((zz (Utf8.decode s a.toNat)).2 : Nat)), .int .i64 (a + (((zz (Utf8.decode s a.toNat)).2 : Nat))), .int .i64 (k), .int .i64 (k + 1)], rfl⟩
  · rw [decide_eq_false c3_3]
    refine AWp.condF rfl rfl ?_
    refine AWp.exit ?_
    refine AWp.seq ?_
    refine AWp.rowV (l := _) pok ?_
    refine sq.c (v := .int .i64 (k)) rfl rfl rfl rfl ?_
    refine sq.c (v := .bool (decide ((1 : Int) ≤ k))) rfl rfl rfl rfl ?_
    refine sq.c (v := .bool (decide ((1 : Int) ≤ k))) rfl rfl rfl rfl ?_
    by_cases c9_1 : (1 : Int) ≤ k
    · rw [decide_eq_true c9_1]
      refine sq.c (v := .int .i64 (k)) (wantT (g := 2) (d := 35) rfl rfl rfl) rfl rfl rfl ?_
      refine sq.c (v := .bool (decide (k ≤ (64 : Int)))) (wantT (g := 2) (d := 35) rfl rfl rfl) rfl rfl rfl ?_
      refine sq.c (v := .bool (decide (k ≤ (64 : Int)))) rfl rfl rfl rfl ?_
      refine sq.c (v := .bool (decide (k ≤ (64 : Int)))) rfl rfl rfl rfl ?_
      refine sq.e ?_
      refine AWp.ret ?_
      -- end 4: L3 ¬c3_3 c9_1
      refine ⟨rfl, [.bool (decide (k ≤ (64 : Int)))], rfl, .bool (decide (k ≤ (64 : Int))), rfl, hs, hn, ?_⟩
      show Value.bool (decide (k ≤ (64 : Int))) = .bool (mayValueL s.data.toList)
      have hd : s.data.toList.drop a.toNat = [] := List.drop_eq_nil_of_le (by omega)
      rw [hd, decs_nil, List.append_nil] at hr
      rw [mv_endD hr hok, decide_eq_true (show 1 ≤ ds.length by omega), Bool.true_and]; exact congrArg Value.bool (decide_eq_decide.2 (by omega))
    · rw [decide_eq_false c9_1]
      refine sq.s (wantF (g := 2) (d := 35) rfl rfl rfl) rfl ?_
      refine sq.s (wantF (g := 2) (d := 35) rfl rfl rfl) rfl ?_
      refine sq.c (v := .bool false) rfl rfl rfl rfl ?_
      refine sq.c (v := .bool false) rfl rfl rfl rfl ?_
      refine sq.e ?_
      refine AWp.ret ?_
      -- end 5: L3 ¬c3_3 ¬c9_1
      refine ⟨rfl, [.bool false], rfl, .bool false, rfl, hs, hn, ?_⟩
      show Value.bool false = .bool (mayValueL s.data.toList)
      have hd : s.data.toList.drop a.toNat = [] := List.drop_eq_nil_of_le (by omega)
      rw [hd, decs_nil, List.append_nil] at hr
      rw [mv_endD hr hok, decide_eq_false (show ¬ 1 ≤ ds.length by omega)]; rfl

end Go.Proofs.YtkpjfibpaojelaaGreatDoor
