/- labels: the document's rune. -/
import Derived.Test.YtkpjfibpaojelaaGreatDoorRuneLaw
namespace Go.Proofs.YtkpjfibpaojelaaGreatDoor
open Go Go.Abs
set_option maxRecDepth 100000
set_option maxHeartbeats 4000000


/-- baton/batonref05.Rune -/
theorem f40_spec {h : Heap} {n : Nat} (s : ByteArray) (hlen : s.data.toList.length < 9223372036854775808) :
    Tells Tryz.prog 40 [.string (s)] h n (.tuple #[.int .i64 ((runeD s).1 : Nat), .int .i64 ((runeD s).2 : Nat)]) := by
  refine Makes.tells (Makes.free fun hf => ?_)
  have hs : SubBut h h [] := .refl _ _
  have hn : n ≤ n := Nat.le_refl _
  have hf0 := hf
  refine Makes.of_bodyV (args := [.string (s)]) (vs := [.string (s), undef, undef, undef, undef, undef, undef, undef, undef, undef, undef, undef, undef, undef, undef, undef, undef, undef, undef, undef, undef, undef, undef, undef, undef, undef, undef, undef, undef, undef, undef, undef, undef, undef, undef, undef, undef, undef, undef, undef, undef, undef, undef, undef, undef, undef, undef, undef, undef, undef, undef, undef, undef, undef, undef, undef, undef, undef, undef, undef, undef, undef, undef, undef, undef, undef, undef, undef, undef, undef, undef, undef, undef, undef, undef, undef, undef, undef, undef, undef, undef, undef, undef, undef]) Tryz.func40 rfl rfl ?_
  refine AWp.seq ?_
  refine AWp.rowV (l := _) pok ?_
  refine sq.c (v := .int .i64 (0)) rfl rfl rfl rfl ?_
  refine sq.c (v := .int .i64 (0)) rfl rfl rfl rfl ?_
  refine sq.e ?_
  refine AWp.seq ?_
  refine AWp.seq ?_
  refine AWp.rowV (l := _) pok ?_
  refine sq.c (v := .string (s)) rfl rfl rfl rfl ?_
  refine sq.c (v := .bool (decide (s = (⟨#[]⟩ : ByteArray)))) rfl rfl (eqD _ _) rfl ?_
  refine sq.e ?_
  by_cases c1_1 : s = (⟨#[]⟩ : ByteArray)
  · rw [decide_eq_true c1_1]
    refine AWp.condT rfl rfl ?_
    refine AWp.seq ?_
    refine AWp.rowV (l := _) pok ?_
    refine sq.c (v := .int .i64 (0)) rfl rfl rfl rfl ?_
    refine sq.c (v := .int .i64 (0)) rfl rfl rfl rfl ?_
    refine sq.e ?_
    refine AWp.ret ?_
    -- end 1: c1_1
    refine ⟨rfl, [.int .i64 (0), .int .i64 (0)], rfl, .tuple #[.int .i64 (0), .int .i64 (0)], rfl, hs, hn, ?_⟩
    subst c1_1; rfl
  · rw [decide_eq_false c1_1]
    refine AWp.condF rfl rfl ?_
    refine AWp.skip ?_
    refine AWp.seq ?_
    refine AWp.rowV (l := _) pok ?_
    refine sq.c (v := .string (s)) rfl rfl rfl rfl ?_
    refine sq.c (v := .int .u8 (bt (s) (0))) rfl rfl (index_str (P := Tryz.prog) (t := 9) (s := s) (i := 0) (k := .i64) (by kernel_rfl) (by omega) (by have := bt0_pos c1_1; omega)) rfl ?_
    refine sq.c (v := .int .i64 (bt (s) (0))) rfl rfl (Eq.trans (b := some (.int .i64 (IntKind.i64.wrap (bt (s) (0))))) (by kernel_rfl) (okI (wrap_i64 (by have := bt_lt s 0; omega) (by have := bt_lt s 0; omega)))) rfl ?_
    refine sq.c (v := .int .i64 (bt (s) (0))) rfl rfl rfl rfl ?_
    refine sq.e ?_
    refine AWp.seq ?_
    refine AWp.seq ?_
    refine AWp.rowV (l := _) pok ?_
    refine sq.c (v := .int .i64 (bt (s) (0))) rfl rfl rfl rfl ?_
    refine sq.c (v := .bool (decide ((bt (s) (0)) < (128 : Int)))) rfl rfl rfl rfl ?_
    refine sq.e ?_
    by_cases c4_1 : (bt (s) (0)) < (128 : Int)
    · rw [decide_eq_true c4_1]
      refine AWp.condT rfl rfl ?_
      refine AWp.seq ?_
      refine AWp.rowV (l := _) pok ?_
      refine sq.c (v := .int .i64 (bt (s) (0))) rfl rfl rfl rfl ?_
      refine sq.c (v := .int .i64 (bt (s) (0))) rfl rfl rfl rfl ?_
      refine sq.c (v := .int .i64 (1)) rfl rfl rfl rfl ?_
      refine sq.e ?_
      refine AWp.ret ?_
      -- end 2: ¬c1_1 c4_1
      refine ⟨rfl, [.int .i64 (bt (s) (0)), .int .i64 (1)], rfl, .tuple #[.int .i64 (bt (s) (0)), .int .i64 (1)], rfl, hs, hn, ?_⟩
      have hp := bt0_pos c1_1
      have hb := bt_lt s 0
      exact rune_tuple (rune_ascii hp c4_1) (by omega) rfl
    · rw [decide_eq_false c4_1]
      refine AWp.condF rfl rfl ?_
      refine AWp.skip ?_
      refine AWp.seq ?_
      refine AWp.rowV (l := _) pok ?_
      refine sq.c (v := .int .i64 (0)) rfl rfl rfl rfl ?_
      refine sq.c (v := .int .i64 (0)) rfl rfl rfl rfl ?_
      refine sq.e ?_
      refine AWp.seqJ (fun vs h' n2 => ∃ (nn least c0 : Int), h = h' ∧ n ≤ n2 ∧ Free h n2 ∧ (lead (bt s 0) = (nn, least, c0)) ∧ (0 < s.data.toList.length) ∧ (192 ≤ bt s 0) ∧ (bt s 0 < 248) ∧ ∃ y1 : Nat → Value, vs = [.string (s), undef, (y1 2), (y1 3), .int .i64 (c0), .int .i64 (nn), .int .i64 (least), undef, undef, .string (s), .bool false, .string (s), .int .u8 (bt (s) (0)), .int .i64 (bt (s) (0)), .int .i64 (bt (s) (0)), .bool false, undef, (y1 17), (y1 18), (y1 19), (y1 20), (y1 21), (y1 22), (y1 23), (y1 24), (y1 25), (y1 26), (y1 27), (y1 28), (y1 29), (y1 30), (y1 31), (y1 32), (y1 33), (y1 34), (y1 35), (y1 36), (y1 37), (y1 38), (y1 39), (y1 40), undef, undef, undef, undef, undef, undef, undef, undef, undef, undef, undef, undef, undef, undef, undef, undef, undef, undef, undef, undef, undef, undef, undef, undef, undef, undef, undef, undef, undef, undef, undef, undef, undef, undef, undef, undef, undef, undef, undef, undef, undef, undef, undef]) ?_ ?_
      · skip
        refine AWp.seq ?_
        refine AWp.rowV (l := _) pok ?_
        refine sq.c (v := .int .i64 (bt (s) (0))) rfl rfl rfl rfl ?_
        refine sq.c (v := .bool (decide ((192 : Int) ≤ (bt (s) (0))))) rfl rfl rfl rfl ?_
        refine sq.c (v := .bool (decide ((192 : Int) ≤ (bt (s) (0))))) rfl rfl rfl rfl ?_
        by_cases c7_1 : (192 : Int) ≤ (bt (s) (0))
        · rw [decide_eq_true c7_1]
          refine sq.c (v := .int .i64 (bt (s) (0))) (wantT (g := 2) (d := 19) rfl rfl rfl) rfl rfl rfl ?_
          refine sq.c (v := .bool (decide ((bt (s) (0)) < (224 : Int)))) (wantT (g := 2) (d := 19) rfl rfl rfl) rfl rfl rfl ?_
          refine sq.c (v := .bool (decide ((bt (s) (0)) < (224 : Int)))) rfl rfl rfl rfl ?_
          refine sq.e ?_
          by_cases c7_4 : (bt (s) (0)) < (224 : Int)
          · rw [decide_eq_true c7_4]
            refine AWp.condT rfl rfl ?_
            refine AWp.rowV (l := _) pok ?_
            refine sq.c (v := .int .i64 (bt (s) (0))) rfl rfl rfl rfl ?_
            refine sq.c (v := .int .i64 ((bt (s) (0)) - 192)) rfl rfl (okI (wrap_i64 (by have := bt_lt s 0; omega) (by have := bt_lt s 0; omega))) rfl ?_
            refine sq.c (v := .int .i64 (1)) rfl rfl rfl rfl ?_
            refine sq.c (v := .int .i64 ((bt (s) (0)) - 192)) rfl rfl rfl rfl ?_
            refine sq.c (v := .int .i64 (128)) rfl rfl rfl rfl ?_
            refine sq.e ?_
            have hp := bt0_pos c1_1
            have hL : lead (bt s 0) = (1, 128, (bt (s) (0)) - 192) := by unfold lead; rw [if_pos (by omega)]
            refine ⟨_, rfl, 1, 128, (bt (s) (0)) - 192, rfl, hn, hf, (hL), (hp), (by omega), (by omega), getV [undef, undef, .int .i64 (0), .int .i64 (0), undef, undef, undef, undef, undef, undef, undef, undef, undef, undef, undef, undef, undef, .int .i64 (bt (s) (0)), .bool true, .bool true, .int .i64 (bt (s) (0)), .bool true, .bool true, .int .i64 (bt (s) (0)), .int .i64 ((bt (s) (0)) - 192), undef, undef, undef, undef, undef, undef, undef, undef, undef, undef, undef, undef, undef, undef, undef, undef], rfl⟩
          · rw [decide_eq_false c7_4]
            refine AWp.condF rfl rfl ?_
            refine AWp.seq ?_
            refine AWp.rowV (l := _) pok ?_
            refine sq.c (v := .int .i64 (bt (s) (0))) rfl rfl rfl rfl ?_
            refine sq.c (v := .bool (decide ((224 : Int) ≤ (bt (s) (0))))) rfl rfl rfl rfl ?_
            refine sq.c (v := .bool (decide ((224 : Int) ≤ (bt (s) (0))))) rfl rfl rfl rfl ?_
            by_cases c9_1 : (224 : Int) ≤ (bt (s) (0))
            · rw [decide_eq_true c9_1]
              refine sq.c (v := .int .i64 (bt (s) (0))) (wantT (g := 2) (d := 27) rfl rfl rfl) rfl rfl rfl ?_
              refine sq.c (v := .bool (decide ((bt (s) (0)) < (240 : Int)))) (wantT (g := 2) (d := 27) rfl rfl rfl) rfl rfl rfl ?_
              refine sq.c (v := .bool (decide ((bt (s) (0)) < (240 : Int)))) rfl rfl rfl rfl ?_
              refine sq.e ?_
              by_cases c9_4 : (bt (s) (0)) < (240 : Int)
              · rw [decide_eq_true c9_4]
                refine AWp.condT rfl rfl ?_
                refine AWp.rowV (l := _) pok ?_
                refine sq.c (v := .int .i64 (bt (s) (0))) rfl rfl rfl rfl ?_
                refine sq.c (v := .int .i64 ((bt (s) (0)) - 224)) rfl rfl (okI (wrap_i64 (by have := bt_lt s 0; omega) (by have := bt_lt s 0; omega))) rfl ?_
                refine sq.c (v := .int .i64 (2)) rfl rfl rfl rfl ?_
                refine sq.c (v := .int .i64 ((bt (s) (0)) - 224)) rfl rfl rfl rfl ?_
                refine sq.c (v := .int .i64 (2048)) rfl rfl rfl rfl ?_
                refine sq.e ?_
                have hp := bt0_pos c1_1
                have hL : lead (bt s 0) = (2, 2048, (bt (s) (0)) - 224) := by unfold lead; rw [if_neg (by omega), if_pos (by omega)]
                refine ⟨_, rfl, 2, 2048, (bt (s) (0)) - 224, rfl, hn, hf, (hL), (hp), (by omega), (by omega), getV [undef, undef, .int .i64 (0), .int .i64 (0), undef, undef, undef, undef, undef, undef, undef, undef, undef, undef, undef, undef, undef, .int .i64 (bt (s) (0)), .bool true, .bool true, .int .i64 (bt (s) (0)), .bool false, .bool false, undef, undef, .int .i64 (bt (s) (0)), .bool true, .bool true, .int .i64 (bt (s) (0)), .bool true, .bool true, .int .i64 (bt (s) (0)), .int .i64 ((bt (s) (0)) - 224), undef, undef, undef, undef, undef, undef, undef, undef], rfl⟩
              · rw [decide_eq_false c9_4]
                refine AWp.condF rfl rfl ?_
                refine AWp.seq ?_
                refine AWp.rowV (l := _) pok ?_
                refine sq.c (v := .int .i64 (bt (s) (0))) rfl rfl rfl rfl ?_
                refine sq.c (v := .bool (decide ((240 : Int) ≤ (bt (s) (0))))) rfl rfl rfl rfl ?_
                refine sq.c (v := .bool (decide ((240 : Int) ≤ (bt (s) (0))))) rfl rfl rfl rfl ?_
                by_cases c11_1 : (240 : Int) ≤ (bt (s) (0))
                · rw [decide_eq_true c11_1]
                  refine sq.c (v := .int .i64 (bt (s) (0))) (wantT (g := 2) (d := 35) rfl rfl rfl) rfl rfl rfl ?_
                  refine sq.c (v := .bool (decide ((bt (s) (0)) < (248 : Int)))) (wantT (g := 2) (d := 35) rfl rfl rfl) rfl rfl rfl ?_
                  refine sq.c (v := .bool (decide ((bt (s) (0)) < (248 : Int)))) rfl rfl rfl rfl ?_
                  refine sq.e ?_
                  by_cases c11_4 : (bt (s) (0)) < (248 : Int)
                  · rw [decide_eq_true c11_4]
                    refine AWp.condT rfl rfl ?_
                    refine AWp.rowV (l := _) pok ?_
                    refine sq.c (v := .int .i64 (bt (s) (0))) rfl rfl rfl rfl ?_
                    refine sq.c (v := .int .i64 ((bt (s) (0)) - 240)) rfl rfl (okI (wrap_i64 (by have := bt_lt s 0; omega) (by have := bt_lt s 0; omega))) rfl ?_
                    refine sq.c (v := .int .i64 (3)) rfl rfl rfl rfl ?_
                    refine sq.c (v := .int .i64 ((bt (s) (0)) - 240)) rfl rfl rfl rfl ?_
                    refine sq.c (v := .int .i64 (65536)) rfl rfl rfl rfl ?_
                    refine sq.e ?_
                    have hp := bt0_pos c1_1
                    have hL : lead (bt s 0) = (3, 65536, (bt (s) (0)) - 240) := by unfold lead; rw [if_neg (by omega), if_neg (by omega)]
                    refine ⟨_, rfl, 3, 65536, (bt (s) (0)) - 240, rfl, hn, hf, (hL), (hp), (by omega), (by omega), getV [undef, undef, .int .i64 (0), .int .i64 (0), undef, undef, undef, undef, undef, undef, undef, undef, undef, undef, undef, undef, undef, .int .i64 (bt (s) (0)), .bool true, .bool true, .int .i64 (bt (s) (0)), .bool false, .bool false, undef, undef, .int .i64 (bt (s) (0)), .bool true, .bool true, .int .i64 (bt (s) (0)), .bool false, .bool false, undef, undef, .int .i64 (bt (s) (0)), .bool true, .bool true, .int .i64 (bt (s) (0)), .bool true, .bool true, .int .i64 (bt (s) (0)), .int .i64 ((bt (s) (0)) - 240)], rfl⟩
                  · rw [decide_eq_false c11_4]
                    refine AWp.condF rfl rfl ?_
                    refine AWp.seq ?_
                    refine AWp.rowV (l := _) pok ?_
                    refine sq.c (v := .int .i64 (0)) rfl rfl rfl rfl ?_
                    refine sq.c (v := .int .i64 (0)) rfl rfl rfl rfl ?_
                    refine sq.e ?_
                    refine AWp.ret ?_
                    -- end 3: ¬c1_1 ¬c4_1 c7_1 ¬c7_4 c9_1 ¬c9_4 c11_1 ¬c11_4
                    refine ⟨rfl, [.int .i64 (0), .int .i64 (0)], rfl, .tuple #[.int .i64 (0), .int .i64 (0)], rfl, hs, hn, ?_⟩
                    have hp := bt0_pos c1_1
                    have hb := bt_lt s 0
                    exact rune_tuple (a := 0) (b := 0) (rune_bad hp (by omega)) rfl rfl
                · rw [decide_eq_false c11_1]
                  refine sq.s (wantF (g := 2) (d := 35) rfl rfl rfl) rfl ?_
                  refine sq.s (wantF (g := 2) (d := 35) rfl rfl rfl) rfl ?_
                  refine sq.c (v := .bool false) rfl rfl rfl rfl ?_
                  refine sq.e ?_
                  refine AWp.condF rfl rfl ?_
                  refine AWp.seq ?_
                  refine AWp.rowV (l := _) pok ?_
                  refine sq.c (v := .int .i64 (0)) rfl rfl rfl rfl ?_
                  refine sq.c (v := .int .i64 (0)) rfl rfl rfl rfl ?_
                  refine sq.e ?_
                  refine AWp.ret ?_
                  -- end 4: ¬c1_1 ¬c4_1 c7_1 ¬c7_4 c9_1 ¬c9_4 ¬c11_1
                  refine ⟨rfl, [.int .i64 (0), .int .i64 (0)], rfl, .tuple #[.int .i64 (0), .int .i64 (0)], rfl, hs, hn, ?_⟩
                  have hp := bt0_pos c1_1
                  have hb := bt_lt s 0
                  exact rune_tuple (a := 0) (b := 0) (rune_bad hp (by omega)) rfl rfl
            · rw [decide_eq_false c9_1]
              refine sq.s (wantF (g := 2) (d := 27) rfl rfl rfl) rfl ?_
              refine sq.s (wantF (g := 2) (d := 27) rfl rfl rfl) rfl ?_
              refine sq.c (v := .bool false) rfl rfl rfl rfl ?_
              refine sq.e ?_
              refine AWp.condF rfl rfl ?_
              refine AWp.seq ?_
              refine AWp.rowV (l := _) pok ?_
              refine sq.c (v := .int .i64 (bt (s) (0))) rfl rfl rfl rfl ?_
              refine sq.c (v := .bool (decide ((240 : Int) ≤ (bt (s) (0))))) rfl rfl rfl rfl ?_
              refine sq.c (v := .bool (decide ((240 : Int) ≤ (bt (s) (0))))) rfl rfl rfl rfl ?_
              by_cases c11_1 : (240 : Int) ≤ (bt (s) (0))
              · rw [decide_eq_true c11_1]
                refine sq.c (v := .int .i64 (bt (s) (0))) (wantT (g := 2) (d := 35) rfl rfl rfl) rfl rfl rfl ?_
                refine sq.c (v := .bool (decide ((bt (s) (0)) < (248 : Int)))) (wantT (g := 2) (d := 35) rfl rfl rfl) rfl rfl rfl ?_
                refine sq.c (v := .bool (decide ((bt (s) (0)) < (248 : Int)))) rfl rfl rfl rfl ?_
                refine sq.e ?_
                by_cases c11_4 : (bt (s) (0)) < (248 : Int)
                · rw [decide_eq_true c11_4]
                  refine AWp.condT rfl rfl ?_
                  refine AWp.rowV (l := _) pok ?_
                  refine sq.c (v := .int .i64 (bt (s) (0))) rfl rfl rfl rfl ?_
                  refine sq.c (v := .int .i64 ((bt (s) (0)) - 240)) rfl rfl (okI (wrap_i64 (by have := bt_lt s 0; omega) (by have := bt_lt s 0; omega))) rfl ?_
                  refine sq.c (v := .int .i64 (3)) rfl rfl rfl rfl ?_
                  refine sq.c (v := .int .i64 ((bt (s) (0)) - 240)) rfl rfl rfl rfl ?_
                  refine sq.c (v := .int .i64 (65536)) rfl rfl rfl rfl ?_
                  refine sq.e ?_
                  have hp := bt0_pos c1_1
                  have hL : lead (bt s 0) = (3, 65536, (bt (s) (0)) - 240) := by unfold lead; rw [if_neg (by omega), if_neg (by omega)]
                  refine ⟨_, rfl, 3, 65536, (bt (s) (0)) - 240, rfl, hn, hf, (hL), (hp), (by omega), (by omega), getV [undef, undef, .int .i64 (0), .int .i64 (0), undef, undef, undef, undef, undef, undef, undef, undef, undef, undef, undef, undef, undef, .int .i64 (bt (s) (0)), .bool true, .bool true, .int .i64 (bt (s) (0)), .bool false, .bool false, undef, undef, .int .i64 (bt (s) (0)), .bool false, .bool false, undef, undef, .bool false, undef, undef, .int .i64 (bt (s) (0)), .bool true, .bool true, .int .i64 (bt (s) (0)), .bool true, .bool true, .int .i64 (bt (s) (0)), .int .i64 ((bt (s) (0)) - 240)], rfl⟩
                · rw [decide_eq_false c11_4]
                  refine AWp.condF rfl rfl ?_
                  refine AWp.seq ?_
                  refine AWp.rowV (l := _) pok ?_
                  refine sq.c (v := .int .i64 (0)) rfl rfl rfl rfl ?_
                  refine sq.c (v := .int .i64 (0)) rfl rfl rfl rfl ?_
                  refine sq.e ?_
                  refine AWp.ret ?_
                  -- end 5: ¬c1_1 ¬c4_1 c7_1 ¬c7_4 ¬c9_1 c11_1 ¬c11_4
                  refine ⟨rfl, [.int .i64 (0), .int .i64 (0)], rfl, .tuple #[.int .i64 (0), .int .i64 (0)], rfl, hs, hn, ?_⟩
                  have hp := bt0_pos c1_1
                  have hb := bt_lt s 0
                  exact rune_tuple (a := 0) (b := 0) (rune_bad hp (by omega)) rfl rfl
              · rw [decide_eq_false c11_1]
                refine sq.s (wantF (g := 2) (d := 35) rfl rfl rfl) rfl ?_
                refine sq.s (wantF (g := 2) (d := 35) rfl rfl rfl) rfl ?_
                refine sq.c (v := .bool false) rfl rfl rfl rfl ?_
                refine sq.e ?_
                refine AWp.condF rfl rfl ?_
                refine AWp.seq ?_
                refine AWp.rowV (l := _) pok ?_
                refine sq.c (v := .int .i64 (0)) rfl rfl rfl rfl ?_
                refine sq.c (v := .int .i64 (0)) rfl rfl rfl rfl ?_
                refine sq.e ?_
                refine AWp.ret ?_
                -- end 6: ¬c1_1 ¬c4_1 c7_1 ¬c7_4 ¬c9_1 ¬c11_1
                refine ⟨rfl, [.int .i64 (0), .int .i64 (0)], rfl, .tuple #[.int .i64 (0), .int .i64 (0)], rfl, hs, hn, ?_⟩
                have hp := bt0_pos c1_1
                have hb := bt_lt s 0
                exact rune_tuple (a := 0) (b := 0) (rune_bad hp (by omega)) rfl rfl
        · rw [decide_eq_false c7_1]
          refine sq.s (wantF (g := 2) (d := 19) rfl rfl rfl) rfl ?_
          refine sq.s (wantF (g := 2) (d := 19) rfl rfl rfl) rfl ?_
          refine sq.c (v := .bool false) rfl rfl rfl rfl ?_
          refine sq.e ?_
          refine AWp.condF rfl rfl ?_
          refine AWp.seq ?_
          refine AWp.rowV (l := _) pok ?_
          refine sq.c (v := .int .i64 (bt (s) (0))) rfl rfl rfl rfl ?_
          refine sq.c (v := .bool (decide ((224 : Int) ≤ (bt (s) (0))))) rfl rfl rfl rfl ?_
          refine sq.c (v := .bool (decide ((224 : Int) ≤ (bt (s) (0))))) rfl rfl rfl rfl ?_
          by_cases c9_1 : (224 : Int) ≤ (bt (s) (0))
          · rw [decide_eq_true c9_1]
            refine sq.c (v := .int .i64 (bt (s) (0))) (wantT (g := 2) (d := 27) rfl rfl rfl) rfl rfl rfl ?_
            refine sq.c (v := .bool (decide ((bt (s) (0)) < (240 : Int)))) (wantT (g := 2) (d := 27) rfl rfl rfl) rfl rfl rfl ?_
            refine sq.c (v := .bool (decide ((bt (s) (0)) < (240 : Int)))) rfl rfl rfl rfl ?_
            refine sq.e ?_
            by_cases c9_4 : (bt (s) (0)) < (240 : Int)
            · rw [decide_eq_true c9_4]
              refine AWp.condT rfl rfl ?_
              refine AWp.rowV (l := _) pok ?_
              refine sq.c (v := .int .i64 (bt (s) (0))) rfl rfl rfl rfl ?_
              refine sq.c (v := .int .i64 ((bt (s) (0)) - 224)) rfl rfl (okI (wrap_i64 (by have := bt_lt s 0; omega) (by have := bt_lt s 0; omega))) rfl ?_
              refine sq.c (v := .int .i64 (2)) rfl rfl rfl rfl ?_
              refine sq.c (v := .int .i64 ((bt (s) (0)) - 224)) rfl rfl rfl rfl ?_
              refine sq.c (v := .int .i64 (2048)) rfl rfl rfl rfl ?_
              refine sq.e ?_
              have hp := bt0_pos c1_1
              have hL : lead (bt s 0) = (2, 2048, (bt (s) (0)) - 224) := by unfold lead; rw [if_neg (by omega), if_pos (by omega)]
              refine ⟨_, rfl, 2, 2048, (bt (s) (0)) - 224, rfl, hn, hf, (hL), (hp), (by omega), (by omega), getV [undef, undef, .int .i64 (0), .int .i64 (0), undef, undef, undef, undef, undef, undef, undef, undef, undef, undef, undef, undef, undef, .int .i64 (bt (s) (0)), .bool false, .bool false, undef, undef, .bool false, undef, undef, .int .i64 (bt (s) (0)), .bool true, .bool true, .int .i64 (bt (s) (0)), .bool true, .bool true, .int .i64 (bt (s) (0)), .int .i64 ((bt (s) (0)) - 224), undef, undef, undef, undef, undef, undef, undef, undef], rfl⟩
            · rw [decide_eq_false c9_4]
              refine AWp.condF rfl rfl ?_
              refine AWp.seq ?_
              refine AWp.rowV (l := _) pok ?_
              refine sq.c (v := .int .i64 (bt (s) (0))) rfl rfl rfl rfl ?_
              refine sq.c (v := .bool (decide ((240 : Int) ≤ (bt (s) (0))))) rfl rfl rfl rfl ?_
              refine sq.c (v := .bool (decide ((240 : Int) ≤ (bt (s) (0))))) rfl rfl rfl rfl ?_
              by_cases c11_1 : (240 : Int) ≤ (bt (s) (0))
              · rw [decide_eq_true c11_1]
                refine sq.c (v := .int .i64 (bt (s) (0))) (wantT (g := 2) (d := 35) rfl rfl rfl) rfl rfl rfl ?_
                refine sq.c (v := .bool (decide ((bt (s) (0)) < (248 : Int)))) (wantT (g := 2) (d := 35) rfl rfl rfl) rfl rfl rfl ?_
                refine sq.c (v := .bool (decide ((bt (s) (0)) < (248 : Int)))) rfl rfl rfl rfl ?_
                refine sq.e ?_
                by_cases c11_4 : (bt (s) (0)) < (248 : Int)
                · rw [decide_eq_true c11_4]
                  refine AWp.condT rfl rfl ?_
                  refine AWp.rowV (l := _) pok ?_
                  refine sq.c (v := .int .i64 (bt (s) (0))) rfl rfl rfl rfl ?_
                  refine sq.c (v := .int .i64 ((bt (s) (0)) - 240)) rfl rfl (okI (wrap_i64 (by have := bt_lt s 0; omega) (by have := bt_lt s 0; omega))) rfl ?_
                  refine sq.c (v := .int .i64 (3)) rfl rfl rfl rfl ?_
                  refine sq.c (v := .int .i64 ((bt (s) (0)) - 240)) rfl rfl rfl rfl ?_
                  refine sq.c (v := .int .i64 (65536)) rfl rfl rfl rfl ?_
                  refine sq.e ?_
                  have hp := bt0_pos c1_1
                  have hL : lead (bt s 0) = (3, 65536, (bt (s) (0)) - 240) := by unfold lead; rw [if_neg (by omega), if_neg (by omega)]
                  refine ⟨_, rfl, 3, 65536, (bt (s) (0)) - 240, rfl, hn, hf, (hL), (hp), (by omega), (by omega), getV [undef, undef, .int .i64 (0), .int .i64 (0), undef, undef, undef, undef, undef, undef, undef, undef, undef, undef, undef, undef, undef, .int .i64 (bt (s) (0)), .bool false, .bool false, undef, undef, .bool false, undef, undef, .int .i64 (bt (s) (0)), .bool true, .bool true, .int .i64 (bt (s) (0)), .bool false, .bool false, undef, undef, .int .i64 (bt (s) (0)), .bool true, .bool true, .int .i64 (bt (s) (0)), .bool true, .bool true, .int .i64 (bt (s) (0)), .int .i64 ((bt (s) (0)) - 240)], rfl⟩
                · rw [decide_eq_false c11_4]
                  refine AWp.condF rfl rfl ?_
                  refine AWp.seq ?_
                  refine AWp.rowV (l := _) pok ?_
                  refine sq.c (v := .int .i64 (0)) rfl rfl rfl rfl ?_
                  refine sq.c (v := .int .i64 (0)) rfl rfl rfl rfl ?_
                  refine sq.e ?_
                  refine AWp.ret ?_
                  -- end 7: ¬c1_1 ¬c4_1 ¬c7_1 c9_1 ¬c9_4 c11_1 ¬c11_4
                  refine ⟨rfl, [.int .i64 (0), .int .i64 (0)], rfl, .tuple #[.int .i64 (0), .int .i64 (0)], rfl, hs, hn, ?_⟩
                  have hp := bt0_pos c1_1
                  have hb := bt_lt s 0
                  exact rune_tuple (a := 0) (b := 0) (rune_bad hp (by omega)) rfl rfl
              · rw [decide_eq_false c11_1]
                refine sq.s (wantF (g := 2) (d := 35) rfl rfl rfl) rfl ?_
                refine sq.s (wantF (g := 2) (d := 35) rfl rfl rfl) rfl ?_
                refine sq.c (v := .bool false) rfl rfl rfl rfl ?_
                refine sq.e ?_
                refine AWp.condF rfl rfl ?_
                refine AWp.seq ?_
                refine AWp.rowV (l := _) pok ?_
                refine sq.c (v := .int .i64 (0)) rfl rfl rfl rfl ?_
                refine sq.c (v := .int .i64 (0)) rfl rfl rfl rfl ?_
                refine sq.e ?_
                refine AWp.ret ?_
                -- end 8: ¬c1_1 ¬c4_1 ¬c7_1 c9_1 ¬c9_4 ¬c11_1
                refine ⟨rfl, [.int .i64 (0), .int .i64 (0)], rfl, .tuple #[.int .i64 (0), .int .i64 (0)], rfl, hs, hn, ?_⟩
                have hp := bt0_pos c1_1
                have hb := bt_lt s 0
                exact rune_tuple (a := 0) (b := 0) (rune_bad hp (by omega)) rfl rfl
          · rw [decide_eq_false c9_1]
            refine sq.s (wantF (g := 2) (d := 27) rfl rfl rfl) rfl ?_
            refine sq.s (wantF (g := 2) (d := 27) rfl rfl rfl) rfl ?_
            refine sq.c (v := .bool false) rfl rfl rfl rfl ?_
            refine sq.e ?_
            refine AWp.condF rfl rfl ?_
            refine AWp.seq ?_
            refine AWp.rowV (l := _) pok ?_
            refine sq.c (v := .int .i64 (bt (s) (0))) rfl rfl rfl rfl ?_
            refine sq.c (v := .bool (decide ((240 : Int) ≤ (bt (s) (0))))) rfl rfl rfl rfl ?_
            refine sq.c (v := .bool (decide ((240 : Int) ≤ (bt (s) (0))))) rfl rfl rfl rfl ?_
            by_cases c11_1 : (240 : Int) ≤ (bt (s) (0))
            · rw [decide_eq_true c11_1]
              refine sq.c (v := .int .i64 (bt (s) (0))) (wantT (g := 2) (d := 35) rfl rfl rfl) rfl rfl rfl ?_
              refine sq.c (v := .bool (decide ((bt (s) (0)) < (248 : Int)))) (wantT (g := 2) (d := 35) rfl rfl rfl) rfl rfl rfl ?_
              refine sq.c (v := .bool (decide ((bt (s) (0)) < (248 : Int)))) rfl rfl rfl rfl ?_
              refine sq.e ?_
              by_cases c11_4 : (bt (s) (0)) < (248 : Int)
              · rw [decide_eq_true c11_4]
                refine AWp.condT rfl rfl ?_
                refine AWp.rowV (l := _) pok ?_
                refine sq.c (v := .int .i64 (bt (s) (0))) rfl rfl rfl rfl ?_
                refine sq.c (v := .int .i64 ((bt (s) (0)) - 240)) rfl rfl (okI (wrap_i64 (by have := bt_lt s 0; omega) (by have := bt_lt s 0; omega))) rfl ?_
                refine sq.c (v := .int .i64 (3)) rfl rfl rfl rfl ?_
                refine sq.c (v := .int .i64 ((bt (s) (0)) - 240)) rfl rfl rfl rfl ?_
                refine sq.c (v := .int .i64 (65536)) rfl rfl rfl rfl ?_
                refine sq.e ?_
                have hp := bt0_pos c1_1
                have hL : lead (bt s 0) = (3, 65536, (bt (s) (0)) - 240) := by unfold lead; rw [if_neg (by omega), if_neg (by omega)]
                refine ⟨_, rfl, 3, 65536, (bt (s) (0)) - 240, rfl, hn, hf, (hL), (hp), (by omega), (by omega), getV [undef, undef, .int .i64 (0), .int .i64 (0), undef, undef, undef, undef, undef, undef, undef, undef, undef, undef, undef, undef, undef, .int .i64 (bt (s) (0)), .bool false, .bool false, undef, undef, .bool false, undef, undef, .int .i64 (bt (s) (0)), .bool false, .bool false, undef, undef, .bool false, undef, undef, .int .i64 (bt (s) (0)), .bool true, .bool true, .int .i64 (bt (s) (0)), .bool true, .bool true, .int .i64 (bt (s) (0)), .int .i64 ((bt (s) (0)) - 240)], rfl⟩
              · rw [decide_eq_false c11_4]
                refine AWp.condF rfl rfl ?_
                refine AWp.seq ?_
                refine AWp.rowV (l := _) pok ?_
                refine sq.c (v := .int .i64 (0)) rfl rfl rfl rfl ?_
                refine sq.c (v := .int .i64 (0)) rfl rfl rfl rfl ?_
                refine sq.e ?_
                refine AWp.ret ?_
                -- end 9: ¬c1_1 ¬c4_1 ¬c7_1 ¬c9_1 c11_1 ¬c11_4
                refine ⟨rfl, [.int .i64 (0), .int .i64 (0)], rfl, .tuple #[.int .i64 (0), .int .i64 (0)], rfl, hs, hn, ?_⟩
                have hp := bt0_pos c1_1
                have hb := bt_lt s 0
                exact rune_tuple (a := 0) (b := 0) (rune_bad hp (by omega)) rfl rfl
            · rw [decide_eq_false c11_1]
              refine sq.s (wantF (g := 2) (d := 35) rfl rfl rfl) rfl ?_
              refine sq.s (wantF (g := 2) (d := 35) rfl rfl rfl) rfl ?_
              refine sq.c (v := .bool false) rfl rfl rfl rfl ?_
              refine sq.e ?_
              refine AWp.condF rfl rfl ?_
              refine AWp.seq ?_
              refine AWp.rowV (l := _) pok ?_
              refine sq.c (v := .int .i64 (0)) rfl rfl rfl rfl ?_
              refine sq.c (v := .int .i64 (0)) rfl rfl rfl rfl ?_
              refine sq.e ?_
              refine AWp.ret ?_
              -- end 10: ¬c1_1 ¬c4_1 ¬c7_1 ¬c9_1 ¬c11_1
              refine ⟨rfl, [.int .i64 (0), .int .i64 (0)], rfl, .tuple #[.int .i64 (0), .int .i64 (0)], rfl, hs, hn, ?_⟩
              have hp := bt0_pos c1_1
              have hb := bt_lt s 0
              exact rune_tuple (a := 0) (b := 0) (rune_bad hp (by omega)) rfl rfl
      · skip
        rintro vs h' n2 ⟨nn, least, c0, rfl, hn, hf, hL, hp, h1, h2, y1, rfl⟩
        refine AWp.seq ?_
        refine AWp.seq ?_
        refine AWp.rowV (l := _) pok ?_
        refine sq.c (v := .string (s)) rfl rfl rfl rfl ?_
        refine sq.c (v := .int .i64 ((s).data.toList.length)) rfl rfl (by kernel_rfl) rfl ?_
        refine sq.c (v := .int .i64 (nn)) rfl rfl rfl rfl ?_
        refine sq.c (v := .int .i64 (1 + nn)) rfl rfl (okI (wrap_i64 (by have := lead_bd hL h1 h2; omega) (by have := lead_bd hL h1 h2; omega))) rfl ?_
        refine sq.c (v := .bool (decide ((((s).data.toList.length : Nat) : Int) < (1 + nn)))) rfl rfl rfl rfl ?_
        refine sq.e ?_
        by_cases c14_4 : (((s).data.toList.length : Nat) : Int) < (1 + nn)
        · rw [decide_eq_true c14_4]
          refine AWp.condT rfl rfl ?_
          refine AWp.seq ?_
          refine AWp.rowV (l := _) pok ?_
          refine sq.c (v := .int .i64 (0)) rfl rfl rfl rfl ?_
          refine sq.c (v := .int .i64 (0)) rfl rfl rfl rfl ?_
          refine sq.e ?_
          refine AWp.ret ?_
          -- end 11: ¬c1_1 ¬c4_1 J14 c14_4
          refine ⟨rfl, [.int .i64 (0), .int .i64 (0)], rfl, .tuple #[.int .i64 (0), .int .i64 (0)], rfl, hs, hn, ?_⟩
          exact rune_tuple (a := 0) (b := 0) (rune_short hp h1 h2 (by rw [hL]; exact c14_4)) rfl rfl
        · rw [decide_eq_false c14_4]
          refine AWp.condF rfl rfl ?_
          refine AWp.skip ?_
          refine AWp.seq ?_
          refine AWp.seq ?_
          refine AWp.rowV (l := _) pok ?_
          refine sq.c (v := .int .i64 (1)) rfl rfl rfl rfl ?_
          refine sq.e ?_
          refine AWp.block ?_
          have hq := lead_bd hL h1 h2
          refine AWp.loopV (fun d vs h' n4 => ∃ (k : Nat) (i r : Int), d = (nn - (k : Int) + 1).toNat ∧ h = h' ∧ n ≤ n4 ∧ Free h n4 ∧ (i = (k : Int) + 1) ∧ (r = runeC s c0 k) ∧ ((k : Int) ≤ nn) ∧ (∀ j : Nat, 1 ≤ j → j ≤ k → 128 ≤ bt s (j : Nat) ∧ bt s (j : Nat) < 192) ∧ (0 ≤ r ∧ (k = 0 ∧ r < 32 ∨ k = 1 ∧ r < 2048 ∨ k = 2 ∧ r < 131072 ∨ k = 3 ∧ r < 8388608)) ∧ ∃ y3 : Nat → Value, vs = [.string (s), undef, (y3 2), (y3 3), .int .i64 (r), .int .i64 (nn), .int .i64 (least), .int .i64 (i), (y3 8), .string (s), .bool false, .string (s), .int .u8 (bt (s) (0)), .int .i64 (bt (s) (0)), .int .i64 (bt (s) (0)), .bool false, undef, (y1 17), (y1 18), (y1 19), (y1 20), (y1 21), (y1 22), (y1 23), (y1 24), (y1 25), (y1 26), (y1 27), (y1 28), (y1 29), (y1 30), (y1 31), (y1 32), (y1 33), (y1 34), (y1 35), (y1 36), (y1 37), (y1 38), (y1 39), (y1 40), .string (s), .int .i64 ((s).data.toList.length), .int .i64 (nn), .int .i64 (1 + nn), .bool false, (y3 46), (y3 47), (y3 48), (y3 49), (y3 50), (y3 51), (y3 52), (y3 53), (y3 54), (y3 55), (y3 56), (y3 57), (y3 58), (y3 59), (y3 60), (y3 61), (y3 62), (y3 63), (y3 64), (y3 65), undef, undef, undef, undef, undef, undef, undef, undef, undef, undef, undef, undef, undef, undef, undef, undef, undef, undef]) ((nn - ((0 : Nat) : Int) + 1).toNat) ⟨0, 1, c0, rfl, rfl, hn, hf, (rfl), (rfl), (by omega), (fun j h1 h2 => by omega), (⟨hq.1, .inl ⟨rfl, hq.2.1⟩⟩), getV [undef, undef, (y1 2), (y1 3), undef, undef, undef, undef, undef, undef, undef, undef, undef, undef, undef, undef, undef, undef, undef, undef, undef, undef, undef, undef, undef, undef, undef, undef, undef, undef, undef, undef, undef, undef, undef, undef, undef, undef, undef, undef, undef, undef, undef, undef, undef, undef, undef, undef, undef, undef, undef, undef, undef, undef, undef, undef, undef, undef, undef, undef, undef, undef, undef, undef, undef, undef], rfl⟩ ?_
          rintro d vs h' n4 ⟨k, i, r, rfl, rfl, hn, hf, hik, hr, hk, hb, hbd, y3, rfl⟩
          refine AWp.seq ?_
          refine AWp.seq ?_
          refine AWp.rowV (l := _) pok ?_
          refine sq.c (v := .int .i64 (i)) rfl rfl rfl rfl ?_
          refine sq.c (v := .int .i64 (nn)) rfl rfl rfl rfl ?_
          refine sq.c (v := .bool (decide (i ≤ nn))) rfl rfl rfl rfl ?_
          refine sq.e ?_
          by_cases c17_2 : i ≤ nn
          · rw [decide_eq_true c17_2]
            refine AWp.condT rfl rfl ?_
            refine AWp.skip ?_
            refine AWp.seq ?_
            refine AWp.block ?_
            refine AWp.seq ?_
            refine AWp.rowV (l := _) pok ?_
            refine sq.c (v := .string (s)) rfl rfl rfl rfl ?_
            refine sq.c (v := .int .i64 (i)) rfl rfl rfl rfl ?_
            refine sq.c (v := .int .u8 (bt (s) (i))) rfl rfl (index_str (P := Tryz.prog) (t := 9) (s := s) (i := i) (k := .i64) (by kernel_rfl) (by omega) (by omega)) rfl ?_
            refine sq.c (v := .int .i64 (bt (s) (i))) rfl rfl (Eq.trans (b := some (.int .i64 (IntKind.i64.wrap (bt (s) (i))))) (by kernel_rfl) (okI (wrap_i64 (by have := bt_lt s i; omega) (by have := bt_lt s i; omega)))) rfl ?_
            refine sq.c (v := .int .i64 (bt (s) (i))) rfl rfl rfl rfl ?_
            refine sq.e ?_
            refine AWp.seq ?_
            refine AWp.seq ?_
            refine AWp.rowV (l := _) pok ?_
            refine sq.c (v := .int .i64 (bt (s) (i))) rfl rfl rfl rfl ?_
            refine sq.c (v := .bool (decide ((bt (s) (i)) < (128 : Int)))) rfl rfl rfl rfl ?_
            refine sq.c (v := .bool (decide ((bt (s) (i)) < (128 : Int)))) rfl rfl rfl rfl ?_
            by_cases c20_1 : (bt (s) (i)) < (128 : Int)
            · rw [decide_eq_true c20_1]
              refine sq.s (wantF (g := 2) (d := 57) rfl rfl rfl) rfl ?_
              refine sq.s (wantF (g := 2) (d := 57) rfl rfl rfl) rfl ?_
              refine sq.c (v := .bool true) rfl rfl rfl rfl ?_
              refine sq.e ?_
              refine AWp.condT rfl rfl ?_
              refine AWp.seq ?_
              refine AWp.rowV (l := _) pok ?_
              refine sq.c (v := .int .i64 (0)) rfl rfl rfl rfl ?_
              refine sq.c (v := .int .i64 (0)) rfl rfl rfl rfl ?_
              refine sq.e ?_
              refine AWp.ret ?_
              -- end 12: ¬c1_1 ¬c4_1 J14 ¬c14_4 L17 c17_2 c20_1
              refine ⟨rfl, [.int .i64 (0), .int .i64 (0)], rfl, .tuple #[.int .i64 (0), .int .i64 (0)], rfl, hs, hn, ?_⟩
              exact rune_tuple (a := 0) (b := 0) (rune_cont (k := k) hp h1 h2 (by rw [hL]; simp only; omega) (by rw [← hik]; omega)) rfl rfl
            · rw [decide_eq_false c20_1]
              refine sq.c (v := .int .i64 (bt (s) (i))) (wantT (g := 2) (d := 57) rfl rfl rfl) rfl rfl rfl ?_
              refine sq.c (v := .bool (decide ((192 : Int) ≤ (bt (s) (i))))) (wantT (g := 2) (d := 57) rfl rfl rfl) rfl rfl rfl ?_
              refine sq.c (v := .bool (decide ((192 : Int) ≤ (bt (s) (i))))) rfl rfl rfl rfl ?_
              refine sq.e ?_
              by_cases c20_4 : (192 : Int) ≤ (bt (s) (i))
              · rw [decide_eq_true c20_4]
                refine AWp.condT rfl rfl ?_
                refine AWp.seq ?_
                refine AWp.rowV (l := _) pok ?_
                refine sq.c (v := .int .i64 (0)) rfl rfl rfl rfl ?_
                refine sq.c (v := .int .i64 (0)) rfl rfl rfl rfl ?_
                refine sq.e ?_
                refine AWp.ret ?_
                -- end 13: ¬c1_1 ¬c4_1 J14 ¬c14_4 L17 c17_2 ¬c20_1 c20_4
                refine ⟨rfl, [.int .i64 (0), .int .i64 (0)], rfl, .tuple #[.int .i64 (0), .int .i64 (0)], rfl, hs, hn, ?_⟩
                exact rune_tuple (a := 0) (b := 0) (rune_cont (k := k) hp h1 h2 (by rw [hL]; simp only; omega) (by rw [← hik]; omega)) rfl rfl
              · rw [decide_eq_false c20_4]
                refine AWp.condF rfl rfl ?_
                refine AWp.skip ?_
                refine AWp.rowV (l := _) pok ?_
                refine sq.c (v := .int .i64 (r)) rfl rfl rfl rfl ?_
                refine sq.c (v := .int .i64 (r * 64)) rfl rfl (okI (wrap_i64 (by omega) (by omega))) rfl ?_
                refine sq.c (v := .int .i64 (bt (s) (i))) rfl rfl rfl rfl ?_
                refine sq.c (v := .int .i64 ((r * 64) + (bt (s) (i)))) rfl rfl (okI (wrap_i64 (by omega) (by omega))) rfl ?_
                refine sq.c (v := .int .i64 (((r * 64) + (bt (s) (i))) - 128)) rfl rfl (okI (wrap_i64 (by omega) (by omega))) rfl ?_
                refine sq.c (v := .int .i64 (((r * 64) + (bt (s) (i))) - 128)) rfl rfl rfl rfl ?_
                refine sq.e ?_
                refine AWp.rowV (l := _) pok ?_
                refine sq.c (v := .int .i64 (i)) rfl rfl rfl rfl ?_
                refine sq.c (v := .int .i64 (i + 1)) rfl rfl (okI (wrap_i64 (by omega) (by omega))) rfl ?_
                refine sq.c (v := .int .i64 (i + 1)) rfl rfl rfl rfl ?_
                refine sq.e ?_
                have hy : ∀ j : Nat, 1 ≤ j → j ≤ k + 1 → 128 ≤ bt s (j : Nat) ∧ bt s (j : Nat) < 192 := by
                  intro j h1 h2
                  by_cases e : j ≤ k
                  · exact hb j h1 e
                  · have e : j = k + 1 := by omega
                    subst e
                    have e2 : bt s ((k + 1 : Nat) : Int) = bt s ((k : Int) + 1) := rfl
                    rw [e2, ← hik]; omega
                have hz : runeC s c0 (k + 1) = runeC s c0 k * 64 + bt s i - 128 := by rw [hik]; rfl
                refine ⟨_, _, rfl, by omega, k + 1, i + 1, _, rfl, rfl, hn, hf, (by omega), (by rw [hz, ← hr]), (by omega), (hy), (by omega), getV [undef, undef, (y3 2), (y3 3), undef, undef, undef, undef, .int .i64 (bt (s) (i)), undef, undef, undef, undef, undef, undef, undef, undef, undef, undef, undef, undef, undef, undef, undef, undef, undef, undef, undef, undef, undef, undef, undef, undef, undef, undef, undef, undef, undef, undef, undef, undef, undef, undef, undef, undef, undef, .int .i64 (i), .int .i64 (nn), .bool true, .int .i64 (i), .int .i64 (i + 1), .string (s), .int .i64 (i), .int .u8 (bt (s) (i)), .int .i64 (bt (s) (i)), .int .i64 (bt (s) (i)), .bool false, .bool false, .int .i64 (bt (s) (i)), .bool false, .bool false, .int .i64 (r), .int .i64 (r * 64), .int .i64 (bt (s) (i)), .int .i64 ((r * 64) + (bt (s) (i))), .int .i64 (((r * 64) + (bt (s) (i))) - 128)], rfl⟩
          · rw [decide_eq_false c17_2]
            refine AWp.condF rfl rfl ?_
            refine AWp.exit ?_
            refine AWp.seq ?_
            refine AWp.seq ?_
            refine AWp.rowV (l := _) pok ?_
            refine sq.c (v := .int .i64 (r)) rfl rfl rfl rfl ?_
            refine sq.c (v := .int .i64 (least)) rfl rfl rfl rfl ?_
            refine sq.c (v := .bool (decide (r < least))) rfl rfl rfl rfl ?_
            refine sq.c (v := .bool (decide (r < least))) rfl rfl rfl rfl ?_
            by_cases c23_2 : r < least
            · rw [decide_eq_true c23_2]
              refine sq.s (wantF (g := 3) (d := 69) rfl rfl rfl) rfl ?_
              refine sq.s (wantF (g := 3) (d := 69) rfl rfl rfl) rfl ?_
              refine sq.c (v := .bool true) rfl rfl rfl rfl ?_
              refine sq.c (v := .bool true) rfl rfl rfl rfl ?_
              refine sq.s (wantF (g := 7) (d := 73) rfl rfl rfl) rfl ?_
              refine sq.s (wantF (g := 7) (d := 73) rfl rfl rfl) rfl ?_
              refine sq.s (wantF (g := 7) (d := 73) rfl rfl rfl) rfl ?_
              refine sq.s (wantU (g := 10) (d := 76) rfl rfl rfl) rfl ?_
              refine sq.s (wantU (g := 10) (d := 76) rfl rfl rfl) rfl ?_
              refine sq.s (wantF (g := 7) (d := 73) rfl rfl rfl) rfl ?_
              refine sq.c (v := .bool true) rfl rfl rfl rfl ?_
              refine sq.e ?_
              refine AWp.condT rfl rfl ?_
              refine AWp.seq ?_
              refine AWp.rowV (l := _) pok ?_
              refine sq.c (v := .int .i64 (0)) rfl rfl rfl rfl ?_
              refine sq.c (v := .int .i64 (0)) rfl rfl rfl rfl ?_
              refine sq.e ?_
              refine AWp.ret ?_
              -- end 14: ¬c1_1 ¬c4_1 J14 ¬c14_4 L17 ¬c17_2 c23_2
              refine ⟨rfl, [.int .i64 (0), .int .i64 (0)], rfl, .tuple #[.int .i64 (0), .int .i64 (0)], rfl, hs, hn, ?_⟩
              have he := rune_end (k := k) hp h1 h2 (by rw [hL]; omega) (by rw [hL]; omega) hb
              rw [hL] at he
              simp only at he
              rw [← hr] at he
              exact rune_tuple (a := 0) (b := 0) (he.trans (if_pos (by omega))) rfl rfl
            · rw [decide_eq_false c23_2]
              refine sq.c (v := .int .i64 (r)) (wantT (g := 3) (d := 69) rfl rfl rfl) rfl rfl rfl ?_
              refine sq.c (v := .bool (decide ((1114111 : Int) < r))) (wantT (g := 3) (d := 69) rfl rfl rfl) rfl rfl rfl ?_
              refine sq.c (v := .bool (decide ((1114111 : Int) < r))) rfl rfl rfl rfl ?_
              refine sq.c (v := .bool (decide ((1114111 : Int) < r))) rfl rfl rfl rfl ?_
              by_cases c23_5 : (1114111 : Int) < r
              · rw [decide_eq_true c23_5]
                refine sq.s (wantF (g := 7) (d := 73) rfl rfl rfl) rfl ?_
                refine sq.s (wantF (g := 7) (d := 73) rfl rfl rfl) rfl ?_
                refine sq.s (wantF (g := 7) (d := 73) rfl rfl rfl) rfl ?_
                refine sq.s (wantU (g := 10) (d := 76) rfl rfl rfl) rfl ?_
                refine sq.s (wantU (g := 10) (d := 76) rfl rfl rfl) rfl ?_
                refine sq.s (wantF (g := 7) (d := 73) rfl rfl rfl) rfl ?_
                refine sq.c (v := .bool true) rfl rfl rfl rfl ?_
                refine sq.e ?_
                refine AWp.condT rfl rfl ?_
                refine AWp.seq ?_
                refine AWp.rowV (l := _) pok ?_
                refine sq.c (v := .int .i64 (0)) rfl rfl rfl rfl ?_
                refine sq.c (v := .int .i64 (0)) rfl rfl rfl rfl ?_
                refine sq.e ?_
                refine AWp.ret ?_
                -- end 15: ¬c1_1 ¬c4_1 J14 ¬c14_4 L17 ¬c17_2 ¬c23_2 c23_5
                refine ⟨rfl, [.int .i64 (0), .int .i64 (0)], rfl, .tuple #[.int .i64 (0), .int .i64 (0)], rfl, hs, hn, ?_⟩
                have he := rune_end (k := k) hp h1 h2 (by rw [hL]; omega) (by rw [hL]; omega) hb
                rw [hL] at he
                simp only at he
                rw [← hr] at he
                exact rune_tuple (a := 0) (b := 0) (he.trans (if_pos (by omega))) rfl rfl
              · rw [decide_eq_false c23_5]
                refine sq.c (v := .int .i64 (r)) (wantT (g := 7) (d := 73) rfl rfl rfl) rfl rfl rfl ?_
                refine sq.c (v := .bool (decide ((55296 : Int) ≤ r))) (wantT (g := 7) (d := 73) rfl rfl rfl) rfl rfl rfl ?_
                refine sq.c (v := .bool (decide ((55296 : Int) ≤ r))) (wantT (g := 7) (d := 73) rfl rfl rfl) rfl rfl rfl ?_
                by_cases c23_9 : (55296 : Int) ≤ r
                · rw [decide_eq_true c23_9]
                  refine sq.c (v := .int .i64 (r)) (wantT (g := 10) (d := 76) rfl rfl rfl) rfl rfl rfl ?_
                  refine sq.c (v := .bool (decide (r ≤ (57343 : Int)))) (wantT (g := 10) (d := 76) rfl rfl rfl) rfl rfl rfl ?_
                  refine sq.c (v := .bool (decide (r ≤ (57343 : Int)))) (wantT (g := 7) (d := 73) rfl rfl rfl) rfl rfl rfl ?_
                  refine sq.c (v := .bool (decide (r ≤ (57343 : Int)))) rfl rfl rfl rfl ?_
                  refine sq.e ?_
                  by_cases c23_12 : r ≤ (57343 : Int)
                  · rw [decide_eq_true c23_12]
                    refine AWp.condT rfl rfl ?_
                    refine AWp.seq ?_
                    refine AWp.rowV (l := _) pok ?_
                    refine sq.c (v := .int .i64 (0)) rfl rfl rfl rfl ?_
                    refine sq.c (v := .int .i64 (0)) rfl rfl rfl rfl ?_
                    refine sq.e ?_
                    refine AWp.ret ?_
                    -- end 16: ¬c1_1 ¬c4_1 J14 ¬c14_4 L17 ¬c17_2 ¬c23_2 ¬c23_5 c23_9 c23_12
                    refine ⟨rfl, [.int .i64 (0), .int .i64 (0)], rfl, .tuple #[.int .i64 (0), .int .i64 (0)], rfl, hs, hn, ?_⟩
                    have he := rune_end (k := k) hp h1 h2 (by rw [hL]; omega) (by rw [hL]; omega) hb
                    rw [hL] at he
                    simp only at he
                    rw [← hr] at he
                    exact rune_tuple (a := 0) (b := 0) (he.trans (if_pos (by omega))) rfl rfl
                  · rw [decide_eq_false c23_12]
                    refine AWp.condF rfl rfl ?_
                    refine AWp.skip ?_
                    refine AWp.seq ?_
                    refine AWp.rowV (l := _) pok ?_
                    refine sq.c (v := .int .i64 (r)) rfl rfl rfl rfl ?_
                    refine sq.c (v := .int .i64 (nn)) rfl rfl rfl rfl ?_
                    refine sq.c (v := .int .i64 (1 + nn)) rfl rfl (okI (wrap_i64 (by omega) (by omega))) rfl ?_
                    refine sq.c (v := .int .i64 (r)) rfl rfl rfl rfl ?_
                    refine sq.c (v := .int .i64 (1 + nn)) rfl rfl rfl rfl ?_
                    refine sq.e ?_
                    refine AWp.ret ?_
                    -- end 17: ¬c1_1 ¬c4_1 J14 ¬c14_4 L17 ¬c17_2 ¬c23_2 ¬c23_5 c23_9 ¬c23_12
                    refine ⟨rfl, [.int .i64 (r), .int .i64 (1 + nn)], rfl, .tuple #[.int .i64 (r), .int .i64 (1 + nn)], rfl, hs, hn, ?_⟩
                    have he := rune_end (k := k) hp h1 h2 (by rw [hL]; omega) (by rw [hL]; omega) hb
                    rw [hL] at he
                    simp only at he
                    rw [← hr] at he
                    exact rune_tuple (he.trans (if_neg (by omega))) (by omega) (by omega)
                · rw [decide_eq_false c23_9]
                  refine sq.s (wantF (g := 10) (d := 76) rfl rfl rfl) rfl ?_
                  refine sq.s (wantF (g := 10) (d := 76) rfl rfl rfl) rfl ?_
                  refine sq.c (v := .bool false) (wantT (g := 7) (d := 73) rfl rfl rfl) rfl rfl rfl ?_
                  refine sq.c (v := .bool false) rfl rfl rfl rfl ?_
                  refine sq.e ?_
                  refine AWp.condF rfl rfl ?_
                  refine AWp.skip ?_
                  refine AWp.seq ?_
                  refine AWp.rowV (l := _) pok ?_
                  refine sq.c (v := .int .i64 (r)) rfl rfl rfl rfl ?_
                  refine sq.c (v := .int .i64 (nn)) rfl rfl rfl rfl ?_
                  refine sq.c (v := .int .i64 (1 + nn)) rfl rfl (okI (wrap_i64 (by omega) (by omega))) rfl ?_
                  refine sq.c (v := .int .i64 (r)) rfl rfl rfl rfl ?_
                  refine sq.c (v := .int .i64 (1 + nn)) rfl rfl rfl rfl ?_
                  refine sq.e ?_
                  refine AWp.ret ?_
                  -- end 18: ¬c1_1 ¬c4_1 J14 ¬c14_4 L17 ¬c17_2 ¬c23_2 ¬c23_5 ¬c23_9
                  refine ⟨rfl, [.int .i64 (r), .int .i64 (1 + nn)], rfl, .tuple #[.int .i64 (r), .int .i64 (1 + nn)], rfl, hs, hn, ?_⟩
                  have he := rune_end (k := k) hp h1 h2 (by rw [hL]; omega) (by rw [hL]; omega) hb
                  rw [hL] at he
                  simp only at he
                  rw [← hr] at he
                  exact rune_tuple (he.trans (if_neg (by omega))) (by omega) (by omega)

end Go.Proofs.YtkpjfibpaojelaaGreatDoor
