/- labels: MayName, MayValue, May, Same, of both texts. -/
import Derived.Test.YtkpjfibpaojelaaGreatDoorLabTabs
namespace Go.Proofs.YtkpjfibpaojelaaGreatDoor
open Go Go.Abs
set_option maxRecDepth 100000
set_option maxHeartbeats 4000000


/-- baton/labels.letter -/
theorem f45_spec {h : Heap} {n : Nat} (c : Int) (b : Bool) :
    Tells Tryz.prog 45 [.int .u8 (c), .bool (b)] h n (.bool (letterB c b)) := by
  refine Makes.tells (Makes.free fun hf => ?_)
  have hs : SubBut h h [] := .refl _ _
  have hn : n ≤ n := Nat.le_refl _
  have hf0 := hf
  refine Makes.of_bodyV (args := [.int .u8 (c), .bool (b)]) (vs := [.int .u8 (c), .bool (b), undef, undef, undef, undef, undef, undef, undef, undef, undef, undef, undef, undef, undef, undef, undef, undef, undef, undef, undef, undef, undef, undef, undef, undef, undef, undef, undef, undef]) Tryz.func45 rfl rfl ?_
  refine AWp.seq ?_
  refine AWp.rowV (l := _) pok ?_
  refine sq.c (v := .bool false) rfl rfl rfl rfl ?_
  refine sq.e ?_
  refine AWp.seq ?_
  refine AWp.block ?_
  refine AWp.seq ?_
  refine AWp.seq ?_
  refine AWp.rowV (l := _) pok ?_
  refine sq.c (v := .int .u8 (c)) rfl rfl rfl rfl ?_
  refine sq.c (v := .bool (decide ((97 : Int) ≤ c))) rfl rfl rfl rfl ?_
  refine sq.c (v := .bool (decide ((97 : Int) ≤ c))) rfl rfl rfl rfl ?_
  by_cases c1_1 : (97 : Int) ≤ c
  · rw [decide_eq_true c1_1]
    refine sq.c (v := .int .u8 (c)) (wantT (g := 2) (d := 8) rfl rfl rfl) rfl rfl rfl ?_
    refine sq.c (v := .bool (decide (c ≤ (122 : Int)))) (wantT (g := 2) (d := 8) rfl rfl rfl) rfl rfl rfl ?_
    refine sq.c (v := .bool (decide (c ≤ (122 : Int)))) rfl rfl rfl rfl ?_
    refine sq.c (v := .bool (decide (c ≤ (122 : Int)))) rfl rfl rfl rfl ?_
    refine sq.e ?_
    by_cases c1_4 : c ≤ (122 : Int)
    · rw [decide_eq_true c1_4]
      refine AWp.condT rfl rfl ?_
      refine AWp.skip ?_
      refine AWp.condT rfl rfl ?_
      refine AWp.seq ?_
      refine AWp.rowV (l := _) pok ?_
      refine sq.c (v := .bool true) rfl rfl rfl rfl ?_
      refine sq.e ?_
      refine AWp.ret ?_
      -- end 1: c1_1 c1_4
      refine ⟨rfl, [.bool true], rfl, .bool true, rfl, hs, hn, ?_⟩
      show Value.bool true = .bool (letterB c _)
      rw [letter_yes (by omega)]
    · rw [decide_eq_false c1_4]
      refine AWp.condF rfl rfl ?_
      refine AWp.seq ?_
      refine AWp.rowV (l := _) pok ?_
      refine sq.c (v := .int .u8 (c)) rfl rfl rfl rfl ?_
      refine sq.c (v := .bool (decide ((65 : Int) ≤ c))) rfl rfl rfl rfl ?_
      refine sq.c (v := .bool (decide ((65 : Int) ≤ c))) rfl rfl rfl rfl ?_
      by_cases c2_1 : (65 : Int) ≤ c
      · rw [decide_eq_true c2_1]
        refine sq.c (v := .int .u8 (c)) (wantT (g := 2) (d := 14) rfl rfl rfl) rfl rfl rfl ?_
        refine sq.c (v := .bool (decide (c ≤ (90 : Int)))) (wantT (g := 2) (d := 14) rfl rfl rfl) rfl rfl rfl ?_
        refine sq.c (v := .bool (decide (c ≤ (90 : Int)))) rfl rfl rfl rfl ?_
        refine sq.c (v := .bool (decide (c ≤ (90 : Int)))) rfl rfl rfl rfl ?_
        refine sq.e ?_
        by_cases c2_4 : c ≤ (90 : Int)
        · rw [decide_eq_true c2_4]
          refine AWp.condT rfl rfl ?_
          refine AWp.skip ?_
          refine AWp.condT rfl rfl ?_
          refine AWp.seq ?_
          refine AWp.rowV (l := _) pok ?_
          refine sq.c (v := .bool true) rfl rfl rfl rfl ?_
          refine sq.e ?_
          refine AWp.ret ?_
          -- end 2: c1_1 ¬c1_4 c2_1 c2_4
          refine ⟨rfl, [.bool true], rfl, .bool true, rfl, hs, hn, ?_⟩
          show Value.bool true = .bool (letterB c _)
          rw [letter_yes (by omega)]
        · rw [decide_eq_false c2_4]
          refine AWp.condF rfl rfl ?_
          refine AWp.rowV (l := _) pok ?_
          refine sq.c (v := .int .u8 (c)) rfl rfl rfl rfl ?_
          refine sq.c (v := .bool (decide (c = (95 : Int)))) rfl rfl rfl rfl ?_
          refine sq.c (v := .bool (decide (c = (95 : Int)))) rfl rfl rfl rfl ?_
          refine sq.e ?_
          by_cases c3_1 : c = (95 : Int)
          · rw [decide_eq_true c3_1]
            refine AWp.condT rfl rfl ?_
            refine AWp.seq ?_
            refine AWp.rowV (l := _) pok ?_
            refine sq.c (v := .bool true) rfl rfl rfl rfl ?_
            refine sq.e ?_
            refine AWp.ret ?_
            -- end 3: c1_1 ¬c1_4 c2_1 ¬c2_4 c3_1
            refine ⟨rfl, [.bool true], rfl, .bool true, rfl, hs, hn, ?_⟩
            show Value.bool true = .bool (letterB c _)
            rw [letter_yes (by omega)]
          · rw [decide_eq_false c3_1]
            refine AWp.condF rfl rfl ?_
            refine AWp.skip ?_
            refine AWp.seq ?_
            refine AWp.rowV (l := _) pok ?_
            refine sq.c (v := .int .u8 (c)) rfl rfl rfl rfl ?_
            refine sq.c (v := .bool (decide ((48 : Int) ≤ c))) rfl rfl rfl rfl ?_
            refine sq.c (v := .bool (decide ((48 : Int) ≤ c))) rfl rfl rfl rfl ?_
            by_cases c5_1 : (48 : Int) ≤ c
            · rw [decide_eq_true c5_1]
              refine sq.c (v := .int .u8 (c)) (wantT (g := 2) (d := 22) rfl rfl rfl) rfl rfl rfl ?_
              refine sq.c (v := .bool (decide (c ≤ (57 : Int)))) (wantT (g := 2) (d := 22) rfl rfl rfl) rfl rfl rfl ?_
              refine sq.c (v := .bool (decide (c ≤ (57 : Int)))) rfl rfl rfl rfl ?_
              refine sq.c (v := .bool (decide (c ≤ (57 : Int)))) rfl rfl rfl rfl ?_
              by_cases c5_4 : c ≤ (57 : Int)
              · rw [decide_eq_true c5_4]
                refine sq.c (v := .bool (b)) (wantT (g := 6) (d := 26) rfl rfl rfl) rfl rfl rfl ?_
                rcases Bool.eq_false_or_eq_true (b) with cb | cb
                · rw [cb]
                  refine sq.c (v := .bool false) (wantT (g := 6) (d := 26) rfl rfl rfl) rfl rfl rfl ?_
                  refine sq.c (v := .bool false) rfl rfl rfl rfl ?_
                  refine sq.c (v := .bool false) rfl rfl rfl rfl ?_
                  refine sq.e ?_
                  refine AWp.ret ?_
                  -- end 4: c1_1 ¬c1_4 c2_1 ¬c2_4 ¬c3_1 c5_1 c5_4 cb
                  refine ⟨rfl, [.bool false], rfl, .bool false, rfl, hs, hn, ?_⟩
                  show Value.bool false = .bool (letterB c _)
                  rw [letter_digit (c := c) (by omega)]; rfl
                · rw [cb]
                  refine sq.c (v := .bool true) rfl rfl rfl rfl ?_
                  refine sq.c (v := .bool true) rfl rfl rfl rfl ?_
                  refine sq.c (v := .bool true) rfl rfl rfl rfl ?_
                  refine sq.e ?_
                  refine AWp.ret ?_
                  -- end 5: c1_1 ¬c1_4 c2_1 ¬c2_4 ¬c3_1 c5_1 c5_4 ¬cb
                  refine ⟨rfl, [.bool true], rfl, .bool true, rfl, hs, hn, ?_⟩
                  show Value.bool true = .bool (letterB c _)
                  rw [letter_digit (c := c) (by omega)]; rfl
              · rw [decide_eq_false c5_4]
                refine sq.s (wantF (g := 6) (d := 26) rfl rfl rfl) rfl ?_
                refine sq.s (wantF (g := 6) (d := 26) rfl rfl rfl) rfl ?_
                refine sq.c (v := .bool false) rfl rfl rfl rfl ?_
                refine sq.c (v := .bool false) rfl rfl rfl rfl ?_
                refine sq.e ?_
                refine AWp.ret ?_
                -- end 6: c1_1 ¬c1_4 c2_1 ¬c2_4 ¬c3_1 c5_1 ¬c5_4
                refine ⟨rfl, [.bool false], rfl, .bool false, rfl, hs, hn, ?_⟩
                show Value.bool false = .bool (letterB c _)
                rw [letter_no (by omega) (by omega)]
            · rw [decide_eq_false c5_1]
              refine sq.s (wantF (g := 2) (d := 22) rfl rfl rfl) rfl ?_
              refine sq.s (wantF (g := 2) (d := 22) rfl rfl rfl) rfl ?_
              refine sq.c (v := .bool false) rfl rfl rfl rfl ?_
              refine sq.c (v := .bool false) rfl rfl rfl rfl ?_
              refine sq.s (wantF (g := 6) (d := 26) rfl rfl rfl) rfl ?_
              refine sq.s (wantF (g := 6) (d := 26) rfl rfl rfl) rfl ?_
              refine sq.c (v := .bool false) rfl rfl rfl rfl ?_
              refine sq.c (v := .bool false) rfl rfl rfl rfl ?_
              refine sq.e ?_
              refine AWp.ret ?_
              -- end 7: c1_1 ¬c1_4 c2_1 ¬c2_4 ¬c3_1 ¬c5_1
              refine ⟨rfl, [.bool false], rfl, .bool false, rfl, hs, hn, ?_⟩
              show Value.bool false = .bool (letterB c _)
              rw [letter_no (by omega) (by omega)]
      · rw [decide_eq_false c2_1]
        refine sq.s (wantF (g := 2) (d := 14) rfl rfl rfl) rfl ?_
        refine sq.s (wantF (g := 2) (d := 14) rfl rfl rfl) rfl ?_
        refine sq.c (v := .bool false) rfl rfl rfl rfl ?_
        refine sq.c (v := .bool false) rfl rfl rfl rfl ?_
        refine sq.e ?_
        refine AWp.condF rfl rfl ?_
        refine AWp.rowV (l := _) pok ?_
        refine sq.c (v := .int .u8 (c)) rfl rfl rfl rfl ?_
        refine sq.c (v := .bool (decide (c = (95 : Int)))) rfl rfl rfl rfl ?_
        refine sq.c (v := .bool (decide (c = (95 : Int)))) rfl rfl rfl rfl ?_
        refine sq.e ?_
        by_cases c3_1 : c = (95 : Int)
        · rw [decide_eq_true c3_1]
          refine AWp.condT rfl rfl ?_
          refine AWp.seq ?_
          refine AWp.rowV (l := _) pok ?_
          refine sq.c (v := .bool true) rfl rfl rfl rfl ?_
          refine sq.e ?_
          refine AWp.ret ?_
          -- end 8: c1_1 ¬c1_4 ¬c2_1 c3_1
          refine ⟨rfl, [.bool true], rfl, .bool true, rfl, hs, hn, ?_⟩
          show Value.bool true = .bool (letterB c _)
          rw [letter_yes (by omega)]
        · rw [decide_eq_false c3_1]
          refine AWp.condF rfl rfl ?_
          refine AWp.skip ?_
          refine AWp.seq ?_
          refine AWp.rowV (l := _) pok ?_
          refine sq.c (v := .int .u8 (c)) rfl rfl rfl rfl ?_
          refine sq.c (v := .bool (decide ((48 : Int) ≤ c))) rfl rfl rfl rfl ?_
          refine sq.c (v := .bool (decide ((48 : Int) ≤ c))) rfl rfl rfl rfl ?_
          by_cases c5_1 : (48 : Int) ≤ c
          · rw [decide_eq_true c5_1]
            refine sq.c (v := .int .u8 (c)) (wantT (g := 2) (d := 22) rfl rfl rfl) rfl rfl rfl ?_
            refine sq.c (v := .bool (decide (c ≤ (57 : Int)))) (wantT (g := 2) (d := 22) rfl rfl rfl) rfl rfl rfl ?_
            refine sq.c (v := .bool (decide (c ≤ (57 : Int)))) rfl rfl rfl rfl ?_
            refine sq.c (v := .bool (decide (c ≤ (57 : Int)))) rfl rfl rfl rfl ?_
            by_cases c5_4 : c ≤ (57 : Int)
            · rw [decide_eq_true c5_4]
              refine sq.c (v := .bool (b)) (wantT (g := 6) (d := 26) rfl rfl rfl) rfl rfl rfl ?_
              rcases Bool.eq_false_or_eq_true (b) with cb | cb
              · rw [cb]
                refine sq.c (v := .bool false) (wantT (g := 6) (d := 26) rfl rfl rfl) rfl rfl rfl ?_
                refine sq.c (v := .bool false) rfl rfl rfl rfl ?_
                refine sq.c (v := .bool false) rfl rfl rfl rfl ?_
                refine sq.e ?_
                refine AWp.ret ?_
                -- end 9: c1_1 ¬c1_4 ¬c2_1 ¬c3_1 c5_1 c5_4 cb
                refine ⟨rfl, [.bool false], rfl, .bool false, rfl, hs, hn, ?_⟩
                show Value.bool false = .bool (letterB c _)
                rw [letter_digit (c := c) (by omega)]; rfl
              · rw [cb]
                refine sq.c (v := .bool true) rfl rfl rfl rfl ?_
                refine sq.c (v := .bool true) rfl rfl rfl rfl ?_
                refine sq.c (v := .bool true) rfl rfl rfl rfl ?_
                refine sq.e ?_
                refine AWp.ret ?_
                -- end 10: c1_1 ¬c1_4 ¬c2_1 ¬c3_1 c5_1 c5_4 ¬cb
                refine ⟨rfl, [.bool true], rfl, .bool true, rfl, hs, hn, ?_⟩
                show Value.bool true = .bool (letterB c _)
                rw [letter_digit (c := c) (by omega)]; rfl
            · rw [decide_eq_false c5_4]
              refine sq.s (wantF (g := 6) (d := 26) rfl rfl rfl) rfl ?_
              refine sq.s (wantF (g := 6) (d := 26) rfl rfl rfl) rfl ?_
              refine sq.c (v := .bool false) rfl rfl rfl rfl ?_
              refine sq.c (v := .bool false) rfl rfl rfl rfl ?_
              refine sq.e ?_
              refine AWp.ret ?_
              -- end 11: c1_1 ¬c1_4 ¬c2_1 ¬c3_1 c5_1 ¬c5_4
              refine ⟨rfl, [.bool false], rfl, .bool false, rfl, hs, hn, ?_⟩
              show Value.bool false = .bool (letterB c _)
              rw [letter_no (by omega) (by omega)]
          · rw [decide_eq_false c5_1]
            refine sq.s (wantF (g := 2) (d := 22) rfl rfl rfl) rfl ?_
            refine sq.s (wantF (g := 2) (d := 22) rfl rfl rfl) rfl ?_
            refine sq.c (v := .bool false) rfl rfl rfl rfl ?_
            refine sq.c (v := .bool false) rfl rfl rfl rfl ?_
            refine sq.s (wantF (g := 6) (d := 26) rfl rfl rfl) rfl ?_
            refine sq.s (wantF (g := 6) (d := 26) rfl rfl rfl) rfl ?_
            refine sq.c (v := .bool false) rfl rfl rfl rfl ?_
            refine sq.c (v := .bool false) rfl rfl rfl rfl ?_
            refine sq.e ?_
            refine AWp.ret ?_
            -- end 12: c1_1 ¬c1_4 ¬c2_1 ¬c3_1 ¬c5_1
            refine ⟨rfl, [.bool false], rfl, .bool false, rfl, hs, hn, ?_⟩
            show Value.bool false = .bool (letterB c _)
            rw [letter_no (by omega) (by omega)]
  · rw [decide_eq_false c1_1]
    refine sq.s (wantF (g := 2) (d := 8) rfl rfl rfl) rfl ?_
    refine sq.s (wantF (g := 2) (d := 8) rfl rfl rfl) rfl ?_
    refine sq.c (v := .bool false) rfl rfl rfl rfl ?_
    refine sq.c (v := .bool false) rfl rfl rfl rfl ?_
    refine sq.e ?_
    refine AWp.condF rfl rfl ?_
    refine AWp.seq ?_
    refine AWp.rowV (l := _) pok ?_
    refine sq.c (v := .int .u8 (c)) rfl rfl rfl rfl ?_
    refine sq.c (v := .bool (decide ((65 : Int) ≤ c))) rfl rfl rfl rfl ?_
    refine sq.c (v := .bool (decide ((65 : Int) ≤ c))) rfl rfl rfl rfl ?_
    by_cases c2_1 : (65 : Int) ≤ c
    · rw [decide_eq_true c2_1]
      refine sq.c (v := .int .u8 (c)) (wantT (g := 2) (d := 14) rfl rfl rfl) rfl rfl rfl ?_
      refine sq.c (v := .bool (decide (c ≤ (90 : Int)))) (wantT (g := 2) (d := 14) rfl rfl rfl) rfl rfl rfl ?_
      refine sq.c (v := .bool (decide (c ≤ (90 : Int)))) rfl rfl rfl rfl ?_
      refine sq.c (v := .bool (decide (c ≤ (90 : Int)))) rfl rfl rfl rfl ?_
      refine sq.e ?_
      by_cases c2_4 : c ≤ (90 : Int)
      · rw [decide_eq_true c2_4]
        refine AWp.condT rfl rfl ?_
        refine AWp.skip ?_
        refine AWp.condT rfl rfl ?_
        refine AWp.seq ?_
        refine AWp.rowV (l := _) pok ?_
        refine sq.c (v := .bool true) rfl rfl rfl rfl ?_
        refine sq.e ?_
        refine AWp.ret ?_
        -- end 13: ¬c1_1 c2_1 c2_4
        refine ⟨rfl, [.bool true], rfl, .bool true, rfl, hs, hn, ?_⟩
        show Value.bool true = .bool (letterB c _)
        rw [letter_yes (by omega)]
      · rw [decide_eq_false c2_4]
        refine AWp.condF rfl rfl ?_
        refine AWp.rowV (l := _) pok ?_
        refine sq.c (v := .int .u8 (c)) rfl rfl rfl rfl ?_
        refine sq.c (v := .bool (decide (c = (95 : Int)))) rfl rfl rfl rfl ?_
        refine sq.c (v := .bool (decide (c = (95 : Int)))) rfl rfl rfl rfl ?_
        refine sq.e ?_
        by_cases c3_1 : c = (95 : Int)
        · rw [decide_eq_true c3_1]
          refine AWp.condT rfl rfl ?_
          refine AWp.seq ?_
          refine AWp.rowV (l := _) pok ?_
          refine sq.c (v := .bool true) rfl rfl rfl rfl ?_
          refine sq.e ?_
          refine AWp.ret ?_
          -- end 14: ¬c1_1 c2_1 ¬c2_4 c3_1
          refine ⟨rfl, [.bool true], rfl, .bool true, rfl, hs, hn, ?_⟩
          show Value.bool true = .bool (letterB c _)
          rw [letter_yes (by omega)]
        · rw [decide_eq_false c3_1]
          refine AWp.condF rfl rfl ?_
          refine AWp.skip ?_
          refine AWp.seq ?_
          refine AWp.rowV (l := _) pok ?_
          refine sq.c (v := .int .u8 (c)) rfl rfl rfl rfl ?_
          refine sq.c (v := .bool (decide ((48 : Int) ≤ c))) rfl rfl rfl rfl ?_
          refine sq.c (v := .bool (decide ((48 : Int) ≤ c))) rfl rfl rfl rfl ?_
          by_cases c5_1 : (48 : Int) ≤ c
          · rw [decide_eq_true c5_1]
            refine sq.c (v := .int .u8 (c)) (wantT (g := 2) (d := 22) rfl rfl rfl) rfl rfl rfl ?_
            refine sq.c (v := .bool (decide (c ≤ (57 : Int)))) (wantT (g := 2) (d := 22) rfl rfl rfl) rfl rfl rfl ?_
            refine sq.c (v := .bool (decide (c ≤ (57 : Int)))) rfl rfl rfl rfl ?_
            refine sq.c (v := .bool (decide (c ≤ (57 : Int)))) rfl rfl rfl rfl ?_
            by_cases c5_4 : c ≤ (57 : Int)
            · rw [decide_eq_true c5_4]
              refine sq.c (v := .bool (b)) (wantT (g := 6) (d := 26) rfl rfl rfl) rfl rfl rfl ?_
              rcases Bool.eq_false_or_eq_true (b) with cb | cb
              · rw [cb]
                refine sq.c (v := .bool false) (wantT (g := 6) (d := 26) rfl rfl rfl) rfl rfl rfl ?_
                refine sq.c (v := .bool false) rfl rfl rfl rfl ?_
                refine sq.c (v := .bool false) rfl rfl rfl rfl ?_
                refine sq.e ?_
                refine AWp.ret ?_
                -- end 15: ¬c1_1 c2_1 ¬c2_4 ¬c3_1 c5_1 c5_4 cb
                refine ⟨rfl, [.bool false], rfl, .bool false, rfl, hs, hn, ?_⟩
                show Value.bool false = .bool (letterB c _)
                rw [letter_digit (c := c) (by omega)]; rfl
              · rw [cb]
                refine sq.c (v := .bool true) rfl rfl rfl rfl ?_
                refine sq.c (v := .bool true) rfl rfl rfl rfl ?_
                refine sq.c (v := .bool true) rfl rfl rfl rfl ?_
                refine sq.e ?_
                refine AWp.ret ?_
                -- end 16: ¬c1_1 c2_1 ¬c2_4 ¬c3_1 c5_1 c5_4 ¬cb
                refine ⟨rfl, [.bool true], rfl, .bool true, rfl, hs, hn, ?_⟩
                show Value.bool true = .bool (letterB c _)
                rw [letter_digit (c := c) (by omega)]; rfl
            · rw [decide_eq_false c5_4]
              refine sq.s (wantF (g := 6) (d := 26) rfl rfl rfl) rfl ?_
              refine sq.s (wantF (g := 6) (d := 26) rfl rfl rfl) rfl ?_
              refine sq.c (v := .bool false) rfl rfl rfl rfl ?_
              refine sq.c (v := .bool false) rfl rfl rfl rfl ?_
              refine sq.e ?_
              refine AWp.ret ?_
              -- end 17: ¬c1_1 c2_1 ¬c2_4 ¬c3_1 c5_1 ¬c5_4
              refine ⟨rfl, [.bool false], rfl, .bool false, rfl, hs, hn, ?_⟩
              show Value.bool false = .bool (letterB c _)
              rw [letter_no (by omega) (by omega)]
          · rw [decide_eq_false c5_1]
            refine sq.s (wantF (g := 2) (d := 22) rfl rfl rfl) rfl ?_
            refine sq.s (wantF (g := 2) (d := 22) rfl rfl rfl) rfl ?_
            refine sq.c (v := .bool false) rfl rfl rfl rfl ?_
            refine sq.c (v := .bool false) rfl rfl rfl rfl ?_
            refine sq.s (wantF (g := 6) (d := 26) rfl rfl rfl) rfl ?_
            refine sq.s (wantF (g := 6) (d := 26) rfl rfl rfl) rfl ?_
            refine sq.c (v := .bool false) rfl rfl rfl rfl ?_
            refine sq.c (v := .bool false) rfl rfl rfl rfl ?_
            refine sq.e ?_
            refine AWp.ret ?_
            -- end 18: ¬c1_1 c2_1 ¬c2_4 ¬c3_1 ¬c5_1
            refine ⟨rfl, [.bool false], rfl, .bool false, rfl, hs, hn, ?_⟩
            show Value.bool false = .bool (letterB c _)
            rw [letter_no (by omega) (by omega)]
    · rw [decide_eq_false c2_1]
      refine sq.s (wantF (g := 2) (d := 14) rfl rfl rfl) rfl ?_
      refine sq.s (wantF (g := 2) (d := 14) rfl rfl rfl) rfl ?_
      refine sq.c (v := .bool false) rfl rfl rfl rfl ?_
      refine sq.c (v := .bool false) rfl rfl rfl rfl ?_
      refine sq.e ?_
      refine AWp.condF rfl rfl ?_
      refine AWp.rowV (l := _) pok ?_
      refine sq.c (v := .int .u8 (c)) rfl rfl rfl rfl ?_
      refine sq.c (v := .bool (decide (c = (95 : Int)))) rfl rfl rfl rfl ?_
      refine sq.c (v := .bool (decide (c = (95 : Int)))) rfl rfl rfl rfl ?_
      refine sq.e ?_
      by_cases c3_1 : c = (95 : Int)
      · rw [decide_eq_true c3_1]
        refine AWp.condT rfl rfl ?_
        refine AWp.seq ?_
        refine AWp.rowV (l := _) pok ?_
        refine sq.c (v := .bool true) rfl rfl rfl rfl ?_
        refine sq.e ?_
        refine AWp.ret ?_
        -- end 19: ¬c1_1 ¬c2_1 c3_1
        refine ⟨rfl, [.bool true], rfl, .bool true, rfl, hs, hn, ?_⟩
        show Value.bool true = .bool (letterB c _)
        rw [letter_yes (by omega)]
      · rw [decide_eq_false c3_1]
        refine AWp.condF rfl rfl ?_
        refine AWp.skip ?_
        refine AWp.seq ?_
        refine AWp.rowV (l := _) pok ?_
        refine sq.c (v := .int .u8 (c)) rfl rfl rfl rfl ?_
        refine sq.c (v := .bool (decide ((48 : Int) ≤ c))) rfl rfl rfl rfl ?_
        refine sq.c (v := .bool (decide ((48 : Int) ≤ c))) rfl rfl rfl rfl ?_
        by_cases c5_1 : (48 : Int) ≤ c
        · rw [decide_eq_true c5_1]
          refine sq.c (v := .int .u8 (c)) (wantT (g := 2) (d := 22) rfl rfl rfl) rfl rfl rfl ?_
          refine sq.c (v := .bool (decide (c ≤ (57 : Int)))) (wantT (g := 2) (d := 22) rfl rfl rfl) rfl rfl rfl ?_
          refine sq.c (v := .bool (decide (c ≤ (57 : Int)))) rfl rfl rfl rfl ?_
          refine sq.c (v := .bool (decide (c ≤ (57 : Int)))) rfl rfl rfl rfl ?_
          by_cases c5_4 : c ≤ (57 : Int)
          · rw [decide_eq_true c5_4]
            refine sq.c (v := .bool (b)) (wantT (g := 6) (d := 26) rfl rfl rfl) rfl rfl rfl ?_
            rcases Bool.eq_false_or_eq_true (b) with cb | cb
            · rw [cb]
              refine sq.c (v := .bool false) (wantT (g := 6) (d := 26) rfl rfl rfl) rfl rfl rfl ?_
              refine sq.c (v := .bool false) rfl rfl rfl rfl ?_
              refine sq.c (v := .bool false) rfl rfl rfl rfl ?_
              refine sq.e ?_
              refine AWp.ret ?_
              -- end 20: ¬c1_1 ¬c2_1 ¬c3_1 c5_1 c5_4 cb
              refine ⟨rfl, [.bool false], rfl, .bool false, rfl, hs, hn, ?_⟩
              show Value.bool false = .bool (letterB c _)
              rw [letter_digit (c := c) (by omega)]; rfl
            · rw [cb]
              refine sq.c (v := .bool true) rfl rfl rfl rfl ?_
              refine sq.c (v := .bool true) rfl rfl rfl rfl ?_
              refine sq.c (v := .bool true) rfl rfl rfl rfl ?_
              refine sq.e ?_
              refine AWp.ret ?_
              -- end 21: ¬c1_1 ¬c2_1 ¬c3_1 c5_1 c5_4 ¬cb
              refine ⟨rfl, [.bool true], rfl, .bool true, rfl, hs, hn, ?_⟩
              show Value.bool true = .bool (letterB c _)
              rw [letter_digit (c := c) (by omega)]; rfl
          · rw [decide_eq_false c5_4]
            refine sq.s (wantF (g := 6) (d := 26) rfl rfl rfl) rfl ?_
            refine sq.s (wantF (g := 6) (d := 26) rfl rfl rfl) rfl ?_
            refine sq.c (v := .bool false) rfl rfl rfl rfl ?_
            refine sq.c (v := .bool false) rfl rfl rfl rfl ?_
            refine sq.e ?_
            refine AWp.ret ?_
            -- end 22: ¬c1_1 ¬c2_1 ¬c3_1 c5_1 ¬c5_4
            refine ⟨rfl, [.bool false], rfl, .bool false, rfl, hs, hn, ?_⟩
            show Value.bool false = .bool (letterB c _)
            rw [letter_no (by omega) (by omega)]
        · rw [decide_eq_false c5_1]
          refine sq.s (wantF (g := 2) (d := 22) rfl rfl rfl) rfl ?_
          refine sq.s (wantF (g := 2) (d := 22) rfl rfl rfl) rfl ?_
          refine sq.c (v := .bool false) rfl rfl rfl rfl ?_
          refine sq.c (v := .bool false) rfl rfl rfl rfl ?_
          refine sq.s (wantF (g := 6) (d := 26) rfl rfl rfl) rfl ?_
          refine sq.s (wantF (g := 6) (d := 26) rfl rfl rfl) rfl ?_
          refine sq.c (v := .bool false) rfl rfl rfl rfl ?_
          refine sq.c (v := .bool false) rfl rfl rfl rfl ?_
          refine sq.e ?_
          refine AWp.ret ?_
          -- end 23: ¬c1_1 ¬c2_1 ¬c3_1 ¬c5_1
          refine ⟨rfl, [.bool false], rfl, .bool false, rfl, hs, hn, ?_⟩
          show Value.bool false = .bool (letterB c _)
          rw [letter_no (by omega) (by omega)]

/-- baton/labels.MayName -/
theorem f20_spec {h : Heap} {n : Nat} (s : ByteArray) (hlen : s.data.toList.length < 9223372036854775808) :
    Tells Tryz.prog 20 [.string (s)] h n (.bool (mayNameB s)) := by
  refine Makes.tells (Makes.free fun hf => ?_)
  have hs : SubBut h h [] := .refl _ _
  have hn : n ≤ n := Nat.le_refl _
  have hf0 := hf
  refine Makes.of_bodyV (args := [.string (s)]) (vs := [.string (s), undef, undef, undef, undef, undef, undef, undef, undef, undef, undef, undef, undef, undef, undef, undef, undef, undef, undef, undef, undef, undef, undef, undef]) Tryz.func20 rfl rfl ?_
  refine AWp.seq ?_
  refine AWp.rowV (l := _) pok ?_
  refine sq.c (v := .bool false) rfl rfl rfl rfl ?_
  refine sq.e ?_
  refine AWp.seq ?_
  refine AWp.seq ?_
  refine AWp.rowV (l := _) pok ?_
  refine sq.c (v := .string (s)) rfl rfl rfl rfl ?_
  refine sq.c (v := .int .i64 ((s).data.toList.length)) rfl rfl (by kernel_rfl) rfl ?_
  refine sq.c (v := .int .i64 (0)) rfl rfl rfl rfl ?_
  refine sq.e ?_
  refine AWp.block ?_
  refine AWp.loopV (fun d vs h' n2 => ∃ (i : Int), d = ((s.data.toList.length : Nat) - i + 1).toNat ∧ h = h' ∧ n ≤ n2 ∧ Free h n2 ∧ (0 ≤ i) ∧ (i ≤ (s.data.toList.length : Nat)) ∧ (∀ j : Nat, (j : Int) < i → letterB (bt s (j : Nat)) (decide (j = 0)) = true) ∧ ∃ y1 : Nat → Value, vs = [.string (s), undef, (y1 2), (y1 3), .string (s), .int .i64 ((s).data.toList.length), .int .i64 (i), (y1 7), (y1 8), (y1 9), (y1 10), (y1 11), (y1 12), (y1 13), (y1 14), (y1 15), (y1 16), undef, undef, undef, undef, undef, undef, undef]) (((s.data.toList.length : Nat) - (0 : Int) + 1).toNat) ⟨0, rfl, rfl, hn, hf, (by omega), (by omega), (fun j hj => by omega), getV [undef, undef, .bool false, undef, undef, undef, undef, undef, undef, undef, undef, undef, undef, undef, undef, undef, undef], rfl⟩ ?_
  rintro d vs h' n2 ⟨i, rfl, rfl, hn, hf, hi0, hi1, hyes, y1, rfl⟩
  refine AWp.seq ?_
  refine AWp.rowV (l := _) pok ?_
  refine sq.c (v := .bool (decide (i < (((s).data.toList.length : Nat) : Int)))) rfl rfl rfl rfl ?_
  refine sq.e ?_
  refine AWp.seq ?_
  by_cases c2_0 : i < (((s).data.toList.length : Nat) : Int)
  · rw [decide_eq_true c2_0]
    refine AWp.condT rfl rfl ?_
    refine AWp.skip ?_
    refine AWp.seq ?_
    refine AWp.block ?_
    refine AWp.seq ?_
    refine AWp.rowV (l := _) pok ?_
    refine sq.c (v := .int .i64 (i)) rfl rfl rfl rfl ?_
    refine sq.c (v := .int .i64 (i)) rfl rfl rfl rfl ?_
    refine sq.e ?_
    refine AWp.seq ?_
    refine AWp.rowV (l := _) pok ?_
    refine sq.c (v := .string (s)) rfl rfl rfl rfl ?_
    refine sq.c (v := .int .i64 (i)) rfl rfl rfl rfl ?_
    refine sq.c (v := .int .u8 (bt (s) (i))) rfl rfl (index_str (P := Tryz.prog) (t := 9) (s := s) (i := i) (k := .i64) (by kernel_rfl) (by omega) (by omega)) rfl ?_
    refine sq.c (v := .int .i64 (i)) rfl rfl rfl rfl ?_
    refine sq.c (v := .bool (decide (i = (0 : Int)))) rfl rfl rfl rfl ?_
    refine sq.t (v := .bool (letterB (bt (s) (i)) (decide (i = (0 : Int))))) rfl (CallsF.fn rfl (by kernel_rfl) rfl rfl) (fun hf => f45_spec _ _) hf rfl ?_
    intro n3 hn2 hf
    have hn := Nat.le_trans hn hn2
    rcases Bool.eq_false_or_eq_true (letterB (bt (s) (i)) (decide (i = (0 : Int)))) with c4_5 | c4_5
    · rw [c4_5]
      refine sq.c (v := .bool false) rfl rfl rfl rfl ?_
      refine sq.e ?_
      refine AWp.condF rfl rfl ?_
      refine AWp.skip ?_
      refine AWp.rowV (l := _) pok ?_
      refine sq.c (v := .int .i64 (i + 1)) rfl rfl (okI (wrap_i64 (by omega) (by omega))) rfl ?_
      refine sq.c (v := .int .i64 (i + 1)) rfl rfl rfl rfl ?_
      refine sq.e ?_
      have hy : ∀ j : Nat, (j : Int) < i + 1 → letterB (bt s (j : Nat)) (decide (j = 0)) = true := by
        intro j hj
        rcases Int.lt_or_eq_of_le (show (j : Int) ≤ i by omega) with q | q
        · exact hyes j q
        · subst q
          rw [show decide (j = 0) = decide ((j : Int) = 0) from decide_eq_decide.2 (by omega)]
          exact c4_5
      refine ⟨_, _, rfl, by omega, i + 1, rfl, rfl, hn, hf, (by omega), (by omega), (hy), getV [undef, undef, (y1 2), .int .i64 (i), undef, undef, undef, .bool true, .int .i64 (i), .string (s), .int .i64 (i), .int .u8 (bt (s) (i)), .int .i64 (i), .bool (decide (i = (0 : Int))), .bool true, .bool false, .int .i64 (i + 1)], rfl⟩
    · rw [c4_5]
      refine sq.c (v := .bool true) rfl rfl rfl rfl ?_
      refine sq.e ?_
      refine AWp.condT rfl rfl ?_
      refine AWp.seq ?_
      refine AWp.rowV (l := _) pok ?_
      refine sq.c (v := .bool false) rfl rfl rfl rfl ?_
      refine sq.e ?_
      refine AWp.ret ?_
      -- end 1: L2 c2_0 ¬c4_5
      refine ⟨rfl, [.bool false], rfl, .bool false, rfl, hs, hn, ?_⟩
      show Value.bool false = .bool (mayNameB s)
      unfold mayNameB
      rw [all_range_false (i := i.toNat) (by omega) (by
        show letterB (bt s ((i.toNat : Nat) : Int)) (decide (i.toNat = 0)) = false
        rw [show ((i.toNat : Nat) : Int) = i by omega, show decide (i.toNat = 0) = decide (i = 0) from decide_eq_decide.2 (by omega)]; exact c4_5), Bool.and_false]
  · rw [decide_eq_false c2_0]
    refine AWp.condF rfl rfl ?_
    refine AWp.exit ?_
    refine AWp.seq ?_
    refine AWp.rowV (l := _) pok ?_
    refine sq.c (v := .string (s)) rfl rfl rfl rfl ?_
    refine sq.c (v := .bool (!decide (s = (⟨#[]⟩ : ByteArray)))) rfl rfl (neD _ _) rfl ?_
    refine sq.c (v := .bool (!decide (s = (⟨#[]⟩ : ByteArray)))) rfl rfl rfl rfl ?_
    by_cases c7_1 : s = (⟨#[]⟩ : ByteArray)
    · rw [decide_eq_true c7_1]
      refine sq.s (wantF (g := 2) (d := 19) rfl rfl rfl) rfl ?_
      refine sq.s (wantF (g := 2) (d := 19) rfl rfl rfl) rfl ?_
      refine sq.s (wantF (g := 2) (d := 19) rfl rfl rfl) rfl ?_
      refine sq.c (v := .bool false) rfl rfl rfl rfl ?_
      refine sq.c (v := .bool false) rfl rfl rfl rfl ?_
      refine sq.e ?_
      refine AWp.ret ?_
      -- end 2: L2 ¬c2_0 c7_1
      refine ⟨rfl, [.bool false], rfl, .bool false, rfl, hs, hn, ?_⟩
      show Value.bool false = .bool (mayNameB s)
      subst c7_1; rfl
    · rw [decide_eq_false c7_1]
      refine sq.c (v := .string (s)) (wantT (g := 2) (d := 19) rfl rfl rfl) rfl rfl rfl ?_
      refine sq.c (v := .int .i64 ((s).data.toList.length)) (wantT (g := 2) (d := 19) rfl rfl rfl) rfl (by kernel_rfl) rfl ?_
      refine sq.c (v := .bool (decide ((((s).data.toList.length : Nat) : Int) ≤ (64 : Int)))) (wantT (g := 2) (d := 19) rfl rfl rfl) rfl rfl rfl ?_
      refine sq.c (v := .bool (decide ((((s).data.toList.length : Nat) : Int) ≤ (64 : Int)))) rfl rfl rfl rfl ?_
      refine sq.c (v := .bool (decide ((((s).data.toList.length : Nat) : Int) ≤ (64 : Int)))) rfl rfl rfl rfl ?_
      refine sq.e ?_
      refine AWp.ret ?_
      -- end 3: L2 ¬c2_0 ¬c7_1
      refine ⟨rfl, [.bool (decide ((((s).data.toList.length : Nat) : Int) ≤ (64 : Int)))], rfl, .bool (decide ((((s).data.toList.length : Nat) : Int) ≤ (64 : Int))), rfl, hs, hn, ?_⟩
      show Value.bool (decide ((((s).data.toList.length : Nat) : Int) ≤ (64 : Int))) = .bool (mayNameB s)
      unfold mayNameB
      have hp := bt0_pos c7_1
      rw [all_range (fun j hj => hyes j (by omega)), Bool.and_true]
      exact congrArg Value.bool (decide_eq_decide.2 (by omega))

/-- baton/batonref05.MayName -/
theorem f21_spec {h : Heap} {n : Nat} (s : ByteArray) (hlen : s.data.toList.length < 9223372036854775808) :
    Tells Tryz.prog 21 [.string (s)] h n (.bool (mayNameB s)) := by
  refine Makes.tells (Makes.free fun hf => ?_)
  have hs : SubBut h h [] := .refl _ _
  have hn : n ≤ n := Nat.le_refl _
  have hf0 := hf
  refine Makes.of_bodyV (args := [.string (s)]) (vs := [.string (s), undef, undef, undef, undef, undef, undef, undef, undef, undef, undef, undef, undef, undef, undef, undef, undef, undef, undef, undef, undef, undef, undef, undef, undef, undef, undef, undef, undef, undef, undef, undef, undef, undef, undef, undef, undef, undef, undef, undef, undef, undef, undef, undef, undef, undef, undef, undef, undef, undef, undef, undef, undef, undef, undef, undef, undef, undef]) Tryz.func21 rfl rfl ?_
  refine AWp.seq ?_
  refine AWp.rowV (l := _) pok ?_
  refine sq.c (v := .bool false) rfl rfl rfl rfl ?_
  refine sq.e ?_
  refine AWp.seqJ (fun vs h' n2 => h = h' ∧ n ≤ n2 ∧ Free h n2 ∧ (¬ (48 ≤ bt s 0 ∧ bt s 0 ≤ 57)) ∧ (¬ s = ⟨#[]⟩) ∧ (s.data.toList.length ≤ 64) ∧ ∃ y1 : Nat → Value, vs = [.string (s), undef, (y1 2), undef, undef, (y1 5), (y1 6), (y1 7), (y1 8), (y1 9), (y1 10), (y1 11), (y1 12), (y1 13), (y1 14), (y1 15), (y1 16), (y1 17), (y1 18), (y1 19), (y1 20), (y1 21), undef, undef, undef, undef, undef, undef, undef, undef, undef, undef, undef, undef, undef, undef, undef, undef, undef, undef, undef, undef, undef, undef, undef, undef, undef, undef, undef, undef, undef, undef, undef, undef, undef, undef, undef, undef]) ?_ ?_
  · skip
    refine AWp.seq ?_
    refine AWp.rowV (l := _) pok ?_
    refine sq.c (v := .string (s)) rfl rfl rfl rfl ?_
    refine sq.c (v := .bool (decide (s = (⟨#[]⟩ : ByteArray)))) rfl rfl (eqD _ _) rfl ?_
    refine sq.c (v := .bool (decide (s = (⟨#[]⟩ : ByteArray)))) rfl rfl rfl rfl ?_
    by_cases c1_1 : s = (⟨#[]⟩ : ByteArray)
    · rw [decide_eq_true c1_1]
      refine sq.s (wantF (g := 2) (d := 7) rfl rfl rfl) rfl ?_
      refine sq.s (wantF (g := 2) (d := 7) rfl rfl rfl) rfl ?_
      refine sq.s (wantF (g := 2) (d := 7) rfl rfl rfl) rfl ?_
      refine sq.c (v := .bool true) rfl rfl rfl rfl ?_
      refine sq.c (v := .bool true) rfl rfl rfl rfl ?_
      refine sq.s (wantF (g := 7) (d := 12) rfl rfl rfl) rfl ?_
      refine sq.s (wantF (g := 7) (d := 12) rfl rfl rfl) rfl ?_
      refine sq.s (wantF (g := 7) (d := 12) rfl rfl rfl) rfl ?_
      refine sq.s (wantF (g := 7) (d := 12) rfl rfl rfl) rfl ?_
      refine sq.s (wantU (g := 11) (d := 16) rfl rfl rfl) rfl ?_
      refine sq.s (wantU (g := 11) (d := 16) rfl rfl rfl) rfl ?_
      refine sq.s (wantU (g := 11) (d := 16) rfl rfl rfl) rfl ?_
      refine sq.s (wantF (g := 7) (d := 12) rfl rfl rfl) rfl ?_
      refine sq.c (v := .bool true) rfl rfl rfl rfl ?_
      refine sq.e ?_
      refine AWp.condT rfl rfl ?_
      refine AWp.seq ?_
      refine AWp.rowV (l := _) pok ?_
      refine sq.c (v := .bool false) rfl rfl rfl rfl ?_
      refine sq.e ?_
      refine AWp.ret ?_
      -- end 1: c1_1
      refine ⟨rfl, [.bool false], rfl, .bool false, rfl, hs, hn, ?_⟩
      show Value.bool false = .bool (mayNameB s)
      subst c1_1; rfl
    · rw [decide_eq_false c1_1]
      refine sq.c (v := .string (s)) (wantT (g := 2) (d := 7) rfl rfl rfl) rfl rfl rfl ?_
      refine sq.c (v := .int .i64 ((s).data.toList.length)) (wantT (g := 2) (d := 7) rfl rfl rfl) rfl (by kernel_rfl) rfl ?_
      refine sq.c (v := .bool (decide ((64 : Int) < (((s).data.toList.length : Nat) : Int)))) (wantT (g := 2) (d := 7) rfl rfl rfl) rfl rfl rfl ?_
      refine sq.c (v := .bool (decide ((64 : Int) < (((s).data.toList.length : Nat) : Int)))) rfl rfl rfl rfl ?_
      refine sq.c (v := .bool (decide ((64 : Int) < (((s).data.toList.length : Nat) : Int)))) rfl rfl rfl rfl ?_
      by_cases c1_5 : (64 : Int) < (((s).data.toList.length : Nat) : Int)
      · rw [decide_eq_true c1_5]
        refine sq.s (wantF (g := 7) (d := 12) rfl rfl rfl) rfl ?_
        refine sq.s (wantF (g := 7) (d := 12) rfl rfl rfl) rfl ?_
        refine sq.s (wantF (g := 7) (d := 12) rfl rfl rfl) rfl ?_
        refine sq.s (wantF (g := 7) (d := 12) rfl rfl rfl) rfl ?_
        refine sq.s (wantU (g := 11) (d := 16) rfl rfl rfl) rfl ?_
        refine sq.s (wantU (g := 11) (d := 16) rfl rfl rfl) rfl ?_
        refine sq.s (wantU (g := 11) (d := 16) rfl rfl rfl) rfl ?_
        refine sq.s (wantF (g := 7) (d := 12) rfl rfl rfl) rfl ?_
        refine sq.c (v := .bool true) rfl rfl rfl rfl ?_
        refine sq.e ?_
        refine AWp.condT rfl rfl ?_
        refine AWp.seq ?_
        refine AWp.rowV (l := _) pok ?_
        refine sq.c (v := .bool false) rfl rfl rfl rfl ?_
        refine sq.e ?_
        refine AWp.ret ?_
        -- end 2: ¬c1_1 c1_5
        refine ⟨rfl, [.bool false], rfl, .bool false, rfl, hs, hn, ?_⟩
        show Value.bool false = .bool (mayNameB s)
        unfold mayNameB
        rw [decide_eq_false (show ¬ (1 ≤ s.data.toList.length ∧ s.data.toList.length ≤ 64) by omega)]; rfl
      · rw [decide_eq_false c1_5]
        refine sq.c (v := .string (s)) (wantT (g := 7) (d := 12) rfl rfl rfl) rfl rfl rfl ?_
        refine sq.c (v := .int .u8 (bt (s) (0))) (wantT (g := 7) (d := 12) rfl rfl rfl) rfl (index_str (P := Tryz.prog) (t := 9) (s := s) (i := 0) (k := .i64) (by kernel_rfl) (by have := bt0_pos c1_1; omega) (by have := bt0_pos c1_1; omega)) rfl ?_
        refine sq.c (v := .bool (decide ((48 : Int) ≤ (bt (s) (0))))) (wantT (g := 7) (d := 12) rfl rfl rfl) rfl rfl rfl ?_
        refine sq.c (v := .bool (decide ((48 : Int) ≤ (bt (s) (0))))) (wantT (g := 7) (d := 12) rfl rfl rfl) rfl rfl rfl ?_
        by_cases c1_10 : (48 : Int) ≤ (bt (s) (0))
        · rw [decide_eq_true c1_10]
          refine sq.c (v := .string (s)) (wantT (g := 11) (d := 16) rfl rfl rfl) rfl rfl rfl ?_
          refine sq.c (v := .int .u8 (bt (s) (0))) (wantT (g := 11) (d := 16) rfl rfl rfl) rfl (index_str (P := Tryz.prog) (t := 9) (s := s) (i := 0) (k := .i64) (by kernel_rfl) (by have := bt0_pos c1_1; omega) (by have := bt0_pos c1_1; omega)) rfl ?_
          refine sq.c (v := .bool (decide ((bt (s) (0)) ≤ (57 : Int)))) (wantT (g := 11) (d := 16) rfl rfl rfl) rfl rfl rfl ?_
          refine sq.c (v := .bool (decide ((bt (s) (0)) ≤ (57 : Int)))) (wantT (g := 7) (d := 12) rfl rfl rfl) rfl rfl rfl ?_
          refine sq.c (v := .bool (decide ((bt (s) (0)) ≤ (57 : Int)))) rfl rfl rfl rfl ?_
          refine sq.e ?_
          by_cases c1_14 : (bt (s) (0)) ≤ (57 : Int)
          · rw [decide_eq_true c1_14]
            refine AWp.condT rfl rfl ?_
            refine AWp.seq ?_
            refine AWp.rowV (l := _) pok ?_
            refine sq.c (v := .bool false) rfl rfl rfl rfl ?_
            refine sq.e ?_
            refine AWp.ret ?_
            -- end 3: ¬c1_1 ¬c1_5 c1_10 c1_14
            refine ⟨rfl, [.bool false], rfl, .bool false, rfl, hs, hn, ?_⟩
            show Value.bool false = .bool (mayNameB s)
            have hp := bt0_pos c1_1
            unfold mayNameB
            rw [all_range_false (i := 0) hp (by
              show letterB (bt s 0) true = false
              rw [letter_digit (by omega)]; rfl), Bool.and_false]
          · rw [decide_eq_false c1_14]
            refine AWp.condF rfl rfl ?_
            refine AWp.skip ?_
            refine ⟨_, rfl, rfl, hn, hf, (by omega), (c1_1), (by omega), getV [undef, undef, .bool false, undef, undef, .string (s), .bool false, .bool false, .string (s), .int .i64 ((s).data.toList.length), .bool false, .bool false, .bool false, .string (s), .int .u8 (bt (s) (0)), .bool true, .bool true, .string (s), .int .u8 (bt (s) (0)), .bool false, .bool false, .bool false], rfl⟩
        · rw [decide_eq_false c1_10]
          refine sq.s (wantF (g := 11) (d := 16) rfl rfl rfl) rfl ?_
          refine sq.s (wantF (g := 11) (d := 16) rfl rfl rfl) rfl ?_
          refine sq.s (wantF (g := 11) (d := 16) rfl rfl rfl) rfl ?_
          refine sq.c (v := .bool false) (wantT (g := 7) (d := 12) rfl rfl rfl) rfl rfl rfl ?_
          refine sq.c (v := .bool false) rfl rfl rfl rfl ?_
          refine sq.e ?_
          refine AWp.condF rfl rfl ?_
          refine AWp.skip ?_
          refine ⟨_, rfl, rfl, hn, hf, (by omega), (c1_1), (by omega), getV [undef, undef, .bool false, undef, undef, .string (s), .bool false, .bool false, .string (s), .int .i64 ((s).data.toList.length), .bool false, .bool false, .bool false, .string (s), .int .u8 (bt (s) (0)), .bool false, .bool false, undef, undef, undef, .bool false, .bool false], rfl⟩
  · skip
    rintro vs h' n2 ⟨rfl, hn, hf, hnd, c1_1, c1_5, y1, rfl⟩
    refine AWp.seq ?_
    refine AWp.seq ?_
    refine AWp.rowV (l := _) pok ?_
    refine sq.c (v := .int .i64 (0)) rfl rfl rfl rfl ?_
    refine sq.e ?_
    refine AWp.block ?_
    refine AWp.loopV (fun d vs h' n4 => ∃ (i : Int), d = ((s.data.toList.length : Nat) - i + 1).toNat ∧ h = h' ∧ n ≤ n4 ∧ Free h n4 ∧ (0 ≤ i) ∧ (i ≤ (s.data.toList.length : Nat)) ∧ (¬ (48 ≤ bt s 0 ∧ bt s 0 ≤ 57)) ∧ (∀ j : Nat, (j : Int) < i → letterB (bt s (j : Nat)) (decide (j = 0)) = true) ∧ ∃ y3 : Nat → Value, vs = [.string (s), undef, (y3 2), .int .i64 (i), (y3 4), (y1 5), (y1 6), (y1 7), (y1 8), (y1 9), (y1 10), (y1 11), (y1 12), (y1 13), (y1 14), (y1 15), (y1 16), (y1 17), (y1 18), (y1 19), (y1 20), (y1 21), (y3 22), (y3 23), (y3 24), (y3 25), (y3 26), (y3 27), (y3 28), (y3 29), (y3 30), (y3 31), (y3 32), (y3 33), (y3 34), (y3 35), (y3 36), (y3 37), (y3 38), (y3 39), (y3 40), (y3 41), (y3 42), (y3 43), (y3 44), (y3 45), (y3 46), (y3 47), (y3 48), (y3 49), (y3 50), (y3 51), (y3 52), (y3 53), (y3 54), (y3 55), (y3 56), (y3 57)]) (((s.data.toList.length : Nat) - (0 : Int) + 1).toNat) ⟨0, rfl, rfl, hn, hf, (by omega), (by omega), (by omega), (fun j hj => by omega), getV [undef, undef, (y1 2), undef, undef, undef, undef, undef, undef, undef, undef, undef, undef, undef, undef, undef, undef, undef, undef, undef, undef, undef, undef, undef, undef, undef, undef, undef, undef, undef, undef, undef, undef, undef, undef, undef, undef, undef, undef, undef, undef, undef, undef, undef, undef, undef, undef, undef, undef, undef, undef, undef, undef, undef, undef, undef, undef, undef], rfl⟩ ?_
    rintro d vs h' n4 ⟨i, rfl, rfl, hn, hf, hi0, hi1, hnd, hyes, y3, rfl⟩
    refine AWp.seq ?_
    refine AWp.seq ?_
    refine AWp.rowV (l := _) pok ?_
    refine sq.c (v := .int .i64 (i)) rfl rfl rfl rfl ?_
    refine sq.c (v := .string (s)) rfl rfl rfl rfl ?_
    refine sq.c (v := .int .i64 ((s).data.toList.length)) rfl rfl (by kernel_rfl) rfl ?_
    refine sq.c (v := .bool (decide (i < (((s).data.toList.length : Nat) : Int)))) rfl rfl rfl rfl ?_
    refine sq.e ?_
    by_cases c4_3 : i < (((s).data.toList.length : Nat) : Int)
    · rw [decide_eq_true c4_3]
      refine AWp.condT rfl rfl ?_
      refine AWp.skip ?_
      refine AWp.seq ?_
      refine AWp.block ?_
      refine AWp.seq ?_
      refine AWp.rowV (l := _) pok ?_
      refine sq.c (v := .string (s)) rfl rfl rfl rfl ?_
      refine sq.c (v := .int .i64 (i)) rfl rfl rfl rfl ?_
      refine sq.c (v := .int .u8 (bt (s) (i))) rfl rfl (index_str (P := Tryz.prog) (t := 9) (s := s) (i := i) (k := .i64) (by kernel_rfl) (by omega) (by omega)) rfl ?_
      refine sq.c (v := .int .u8 (bt (s) (i))) rfl rfl rfl rfl ?_
      refine sq.e ?_
      refine AWp.seq ?_
      refine AWp.rowV (l := _) pok ?_
      refine sq.c (v := .int .u8 (bt (s) (i))) rfl rfl rfl rfl ?_
      refine sq.c (v := .bool (decide ((97 : Int) ≤ (bt (s) (i))))) rfl rfl rfl rfl ?_
      refine sq.c (v := .bool (decide ((97 : Int) ≤ (bt (s) (i))))) rfl rfl rfl rfl ?_
      by_cases c7_1 : (97 : Int) ≤ (bt (s) (i))
      · rw [decide_eq_true c7_1]
        refine sq.c (v := .int .u8 (bt (s) (i))) (wantT (g := 2) (d := 33) rfl rfl rfl) rfl rfl rfl ?_
        refine sq.c (v := .bool (decide ((bt (s) (i)) ≤ (122 : Int)))) (wantT (g := 2) (d := 33) rfl rfl rfl) rfl rfl rfl ?_
        refine sq.c (v := .bool (decide ((bt (s) (i)) ≤ (122 : Int)))) rfl rfl rfl rfl ?_
        refine sq.c (v := .bool (decide ((bt (s) (i)) ≤ (122 : Int)))) rfl rfl rfl rfl ?_
        by_cases c7_4 : (bt (s) (i)) ≤ (122 : Int)
        · rw [decide_eq_true c7_4]
          refine sq.s (wantF (g := 6) (d := 37) rfl rfl rfl) rfl ?_
          refine sq.s (wantF (g := 6) (d := 37) rfl rfl rfl) rfl ?_
          refine sq.s (wantF (g := 6) (d := 37) rfl rfl rfl) rfl ?_
          refine sq.s (wantU (g := 9) (d := 40) rfl rfl rfl) rfl ?_
          refine sq.s (wantU (g := 9) (d := 40) rfl rfl rfl) rfl ?_
          refine sq.s (wantF (g := 6) (d := 37) rfl rfl rfl) rfl ?_
          refine sq.c (v := .bool true) rfl rfl rfl rfl ?_
          refine sq.c (v := .bool true) rfl rfl rfl rfl ?_
          refine sq.s (wantF (g := 14) (d := 45) rfl rfl rfl) rfl ?_
          refine sq.s (wantF (g := 14) (d := 45) rfl rfl rfl) rfl ?_
          refine sq.s (wantF (g := 14) (d := 45) rfl rfl rfl) rfl ?_
          refine sq.s (wantU (g := 17) (d := 48) rfl rfl rfl) rfl ?_
          refine sq.s (wantU (g := 17) (d := 48) rfl rfl rfl) rfl ?_
          refine sq.s (wantF (g := 14) (d := 45) rfl rfl rfl) rfl ?_
          refine sq.c (v := .bool true) rfl rfl rfl rfl ?_
          refine sq.c (v := .bool true) rfl rfl rfl rfl ?_
          refine sq.s (wantF (g := 22) (d := 53) rfl rfl rfl) rfl ?_
          refine sq.s (wantF (g := 22) (d := 53) rfl rfl rfl) rfl ?_
          refine sq.c (v := .bool true) rfl rfl rfl rfl ?_
          refine sq.c (v := .bool false) rfl rfl rfl rfl ?_
          refine sq.e ?_
          refine AWp.condF rfl rfl ?_
          refine AWp.skip ?_
          refine AWp.rowV (l := _) pok ?_
          refine sq.c (v := .int .i64 (i)) rfl rfl rfl rfl ?_
          refine sq.c (v := .int .i64 (i + 1)) rfl rfl (okI (wrap_i64 (by omega) (by omega))) rfl ?_
          refine sq.c (v := .int .i64 (i + 1)) rfl rfl rfl rfl ?_
          refine sq.e ?_
          have hy : ∀ j : Nat, (j : Int) < i + 1 → letterB (bt s (j : Nat)) (decide (j = 0)) = true := by
            intro j hj
            rcases Int.lt_or_eq_of_le (show (j : Int) ≤ i by omega) with q | q
            · exact hyes j q
            · subst q
              rw [show decide (j = 0) = decide ((j : Int) = 0) from decide_eq_decide.2 (by omega)]
              exact letter_yes (by omega)
          refine ⟨_, _, rfl, by omega, i + 1, rfl, rfl, hn, hf, (by omega), (by omega), (by omega), (hy), getV [undef, undef, (y3 2), undef, .int .u8 (bt (s) (i)), undef, undef, undef, undef, undef, undef, undef, undef, undef, undef, undef, undef, undef, undef, undef, undef, undef, .int .i64 (i), .string (s), .int .i64 ((s).data.toList.length), .bool true, .int .i64 (i), .int .i64 (i + 1), .string (s), .int .i64 (i), .int .u8 (bt (s) (i)), .int .u8 (bt (s) (i)), .bool true, .bool true, .int .u8 (bt (s) (i)), .bool true, .bool true, .bool true, undef, undef, undef, undef, undef, undef, .bool true, .bool true, undef, undef, undef, undef, undef, undef, .bool true, .bool true, undef, undef, .bool true, .bool false], rfl⟩
        · rw [decide_eq_false c7_4]
          refine sq.c (v := .int .u8 (bt (s) (i))) (wantT (g := 6) (d := 37) rfl rfl rfl) rfl rfl rfl ?_
          refine sq.c (v := .bool (decide ((65 : Int) ≤ (bt (s) (i))))) (wantT (g := 6) (d := 37) rfl rfl rfl) rfl rfl rfl ?_
          refine sq.c (v := .bool (decide ((65 : Int) ≤ (bt (s) (i))))) (wantT (g := 6) (d := 37) rfl rfl rfl) rfl rfl rfl ?_
          by_cases c7_8 : (65 : Int) ≤ (bt (s) (i))
          · rw [decide_eq_true c7_8]
            refine sq.c (v := .int .u8 (bt (s) (i))) (wantT (g := 9) (d := 40) rfl rfl rfl) rfl rfl rfl ?_
            refine sq.c (v := .bool (decide ((bt (s) (i)) ≤ (90 : Int)))) (wantT (g := 9) (d := 40) rfl rfl rfl) rfl rfl rfl ?_
            refine sq.c (v := .bool (decide ((bt (s) (i)) ≤ (90 : Int)))) (wantT (g := 6) (d := 37) rfl rfl rfl) rfl rfl rfl ?_
            refine sq.c (v := .bool (decide ((bt (s) (i)) ≤ (90 : Int)))) rfl rfl rfl rfl ?_
            refine sq.c (v := .bool (decide ((bt (s) (i)) ≤ (90 : Int)))) rfl rfl rfl rfl ?_
            by_cases c7_11 : (bt (s) (i)) ≤ (90 : Int)
            · rw [decide_eq_true c7_11]
              refine sq.s (wantF (g := 14) (d := 45) rfl rfl rfl) rfl ?_
              refine sq.s (wantF (g := 14) (d := 45) rfl rfl rfl) rfl ?_
              refine sq.s (wantF (g := 14) (d := 45) rfl rfl rfl) rfl ?_
              refine sq.s (wantU (g := 17) (d := 48) rfl rfl rfl) rfl ?_
              refine sq.s (wantU (g := 17) (d := 48) rfl rfl rfl) rfl ?_
              refine sq.s (wantF (g := 14) (d := 45) rfl rfl rfl) rfl ?_
              refine sq.c (v := .bool true) rfl rfl rfl rfl ?_
              refine sq.c (v := .bool true) rfl rfl rfl rfl ?_
              refine sq.s (wantF (g := 22) (d := 53) rfl rfl rfl) rfl ?_
              refine sq.s (wantF (g := 22) (d := 53) rfl rfl rfl) rfl ?_
              refine sq.c (v := .bool true) rfl rfl rfl rfl ?_
              refine sq.c (v := .bool false) rfl rfl rfl rfl ?_
              refine sq.e ?_
              refine AWp.condF rfl rfl ?_
              refine AWp.skip ?_
              refine AWp.rowV (l := _) pok ?_
              refine sq.c (v := .int .i64 (i)) rfl rfl rfl rfl ?_
              refine sq.c (v := .int .i64 (i + 1)) rfl rfl (okI (wrap_i64 (by omega) (by omega))) rfl ?_
              refine sq.c (v := .int .i64 (i + 1)) rfl rfl rfl rfl ?_
              refine sq.e ?_
              have hy : ∀ j : Nat, (j : Int) < i + 1 → letterB (bt s (j : Nat)) (decide (j = 0)) = true := by
                intro j hj
                rcases Int.lt_or_eq_of_le (show (j : Int) ≤ i by omega) with q | q
                · exact hyes j q
                · subst q
                  rw [show decide (j = 0) = decide ((j : Int) = 0) from decide_eq_decide.2 (by omega)]
                  exact letter_yes (by omega)
              refine ⟨_, _, rfl, by omega, i + 1, rfl, rfl, hn, hf, (by omega), (by omega), (by omega), (hy), getV [undef, undef, (y3 2), undef, .int .u8 (bt (s) (i)), undef, undef, undef, undef, undef, undef, undef, undef, undef, undef, undef, undef, undef, undef, undef, undef, undef, .int .i64 (i), .string (s), .int .i64 ((s).data.toList.length), .bool true, .int .i64 (i), .int .i64 (i + 1), .string (s), .int .i64 (i), .int .u8 (bt (s) (i)), .int .u8 (bt (s) (i)), .bool true, .bool true, .int .u8 (bt (s) (i)), .bool false, .bool false, .bool false, .int .u8 (bt (s) (i)), .bool true, .bool true, .int .u8 (bt (s) (i)), .bool true, .bool true, .bool true, .bool true, undef, undef, undef, undef, undef, undef, .bool true, .bool true, undef, undef, .bool true, .bool false], rfl⟩
            · rw [decide_eq_false c7_11]
              refine sq.c (v := .int .u8 (bt (s) (i))) (wantT (g := 14) (d := 45) rfl rfl rfl) rfl rfl rfl ?_
              refine sq.c (v := .bool (decide ((48 : Int) ≤ (bt (s) (i))))) (wantT (g := 14) (d := 45) rfl rfl rfl) rfl rfl rfl ?_
              refine sq.c (v := .bool (decide ((48 : Int) ≤ (bt (s) (i))))) (wantT (g := 14) (d := 45) rfl rfl rfl) rfl rfl rfl ?_
              by_cases c7_16 : (48 : Int) ≤ (bt (s) (i))
              · rw [decide_eq_true c7_16]
                refine sq.c (v := .int .u8 (bt (s) (i))) (wantT (g := 17) (d := 48) rfl rfl rfl) rfl rfl rfl ?_
                refine sq.c (v := .bool (decide ((bt (s) (i)) ≤ (57 : Int)))) (wantT (g := 17) (d := 48) rfl rfl rfl) rfl rfl rfl ?_
                refine sq.c (v := .bool (decide ((bt (s) (i)) ≤ (57 : Int)))) (wantT (g := 14) (d := 45) rfl rfl rfl) rfl rfl rfl ?_
                refine sq.c (v := .bool (decide ((bt (s) (i)) ≤ (57 : Int)))) rfl rfl rfl rfl ?_
                refine sq.c (v := .bool (decide ((bt (s) (i)) ≤ (57 : Int)))) rfl rfl rfl rfl ?_
                by_cases c7_19 : (bt (s) (i)) ≤ (57 : Int)
                · rw [decide_eq_true c7_19]
                  refine sq.s (wantF (g := 22) (d := 53) rfl rfl rfl) rfl ?_
                  refine sq.s (wantF (g := 22) (d := 53) rfl rfl rfl) rfl ?_
                  refine sq.c (v := .bool true) rfl rfl rfl rfl ?_
                  refine sq.c (v := .bool false) rfl rfl rfl rfl ?_
                  refine sq.e ?_
                  refine AWp.condF rfl rfl ?_
                  refine AWp.skip ?_
                  refine AWp.rowV (l := _) pok ?_
                  refine sq.c (v := .int .i64 (i)) rfl rfl rfl rfl ?_
                  refine sq.c (v := .int .i64 (i + 1)) rfl rfl (okI (wrap_i64 (by omega) (by omega))) rfl ?_
                  refine sq.c (v := .int .i64 (i + 1)) rfl rfl rfl rfl ?_
                  refine sq.e ?_
                  have hy : ∀ j : Nat, (j : Int) < i + 1 → letterB (bt s (j : Nat)) (decide (j = 0)) = true := by
                    intro j hj
                    rcases Int.lt_or_eq_of_le (show (j : Int) ≤ i by omega) with q | q
                    · exact hyes j q
                    · subst q
                      rw [show decide (j = 0) = decide ((j : Int) = 0) from decide_eq_decide.2 (by omega)]
                      have hj0 : ¬ (j : Int) = 0 := by
                        intro e
                        rw [e] at c7_16 c7_19
                        exact hnd ⟨c7_16, c7_19⟩
                      rw [letter_digit (by omega), decide_eq_false hj0]; rfl
                  refine ⟨_, _, rfl, by omega, i + 1, rfl, rfl, hn, hf, (by omega), (by omega), (by omega), (hy), getV [undef, undef, (y3 2), undef, .int .u8 (bt (s) (i)), undef, undef, undef, undef, undef, undef, undef, undef, undef, undef, undef, undef, undef, undef, undef, undef, undef, .int .i64 (i), .string (s), .int .i64 ((s).data.toList.length), .bool true, .int .i64 (i), .int .i64 (i + 1), .string (s), .int .i64 (i), .int .u8 (bt (s) (i)), .int .u8 (bt (s) (i)), .bool true, .bool true, .int .u8 (bt (s) (i)), .bool false, .bool false, .bool false, .int .u8 (bt (s) (i)), .bool true, .bool true, .int .u8 (bt (s) (i)), .bool false, .bool false, .bool false, .bool false, .int .u8 (bt (s) (i)), .bool true, .bool true, .int .u8 (bt (s) (i)), .bool true, .bool true, .bool true, .bool true, undef, undef, .bool true, .bool false], rfl⟩
                · rw [decide_eq_false c7_19]
                  refine sq.c (v := .int .u8 (bt (s) (i))) (wantT (g := 22) (d := 53) rfl rfl rfl) rfl rfl rfl ?_
                  refine sq.c (v := .bool (decide ((bt (s) (i)) = (95 : Int)))) (wantT (g := 22) (d := 53) rfl rfl rfl) rfl rfl rfl ?_
                  refine sq.c (v := .bool (decide ((bt (s) (i)) = (95 : Int)))) rfl rfl rfl rfl ?_
                  refine sq.c (v := .bool (!decide ((bt (s) (i)) = (95 : Int)))) rfl rfl rfl rfl ?_
                  refine sq.e ?_
                  by_cases c7_24 : (bt (s) (i)) = (95 : Int)
                  · rw [decide_eq_true c7_24]
                    refine AWp.condF rfl rfl ?_
                    refine AWp.skip ?_
                    refine AWp.rowV (l := _) pok ?_
                    refine sq.c (v := .int .i64 (i)) rfl rfl rfl rfl ?_
                    refine sq.c (v := .int .i64 (i + 1)) rfl rfl (okI (wrap_i64 (by omega) (by omega))) rfl ?_
                    refine sq.c (v := .int .i64 (i + 1)) rfl rfl rfl rfl ?_
                    refine sq.e ?_
                    have hy : ∀ j : Nat, (j : Int) < i + 1 → letterB (bt s (j : Nat)) (decide (j = 0)) = true := by
                      intro j hj
                      rcases Int.lt_or_eq_of_le (show (j : Int) ≤ i by omega) with q | q
                      · exact hyes j q
                      · subst q
                        rw [show decide (j = 0) = decide ((j : Int) = 0) from decide_eq_decide.2 (by omega)]
                        exact letter_yes (by omega)
                    refine ⟨_, _, rfl, by omega, i + 1, rfl, rfl, hn, hf, (by omega), (by omega), (by omega), (hy), getV [undef, undef, (y3 2), undef, .int .u8 (bt (s) (i)), undef, undef, undef, undef, undef, undef, undef, undef, undef, undef, undef, undef, undef, undef, undef, undef, undef, .int .i64 (i), .string (s), .int .i64 ((s).data.toList.length), .bool true, .int .i64 (i), .int .i64 (i + 1), .string (s), .int .i64 (i), .int .u8 (bt (s) (i)), .int .u8 (bt (s) (i)), .bool true, .bool true, .int .u8 (bt (s) (i)), .bool false, .bool false, .bool false, .int .u8 (bt (s) (i)), .bool true, .bool true, .int .u8 (bt (s) (i)), .bool false, .bool false, .bool false, .bool false, .int .u8 (bt (s) (i)), .bool true, .bool true, .int .u8 (bt (s) (i)), .bool false, .bool false, .bool false, .bool false, .int .u8 (bt (s) (i)), .bool true, .bool true, .bool false], rfl⟩
                  · rw [decide_eq_false c7_24]
                    refine AWp.condT rfl rfl ?_
                    refine AWp.seq ?_
                    refine AWp.rowV (l := _) pok ?_
                    refine sq.c (v := .bool false) rfl rfl rfl rfl ?_
                    refine sq.e ?_
                    refine AWp.ret ?_
                    -- end 4: J3 L4 c4_3 c7_1 ¬c7_4 c7_8 ¬c7_11 c7_16 ¬c7_19 ¬c7_24
                    refine ⟨rfl, [.bool false], rfl, .bool false, rfl, hs, hn, ?_⟩
                    show Value.bool false = .bool (mayNameB s)
                    unfold mayNameB
                    rw [all_range_false (i := i.toNat) (by omega) (by
                      show letterB (bt s ((i.toNat : Nat) : Int)) (decide (i.toNat = 0)) = false
                      rw [show ((i.toNat : Nat) : Int) = i by omega]
                      exact letter_no (by omega) (by omega)), Bool.and_false]
              · rw [decide_eq_false c7_16]
                refine sq.s (wantF (g := 17) (d := 48) rfl rfl rfl) rfl ?_
                refine sq.s (wantF (g := 17) (d := 48) rfl rfl rfl) rfl ?_
                refine sq.c (v := .bool false) (wantT (g := 14) (d := 45) rfl rfl rfl) rfl rfl rfl ?_
                refine sq.c (v := .bool false) rfl rfl rfl rfl ?_
                refine sq.c (v := .bool false) rfl rfl rfl rfl ?_
                refine sq.c (v := .int .u8 (bt (s) (i))) (wantT (g := 22) (d := 53) rfl rfl rfl) rfl rfl rfl ?_
                refine sq.c (v := .bool (decide ((bt (s) (i)) = (95 : Int)))) (wantT (g := 22) (d := 53) rfl rfl rfl) rfl rfl rfl ?_
                refine sq.c (v := .bool (decide ((bt (s) (i)) = (95 : Int)))) rfl rfl rfl rfl ?_
                refine sq.c (v := .bool (!decide ((bt (s) (i)) = (95 : Int)))) rfl rfl rfl rfl ?_
                refine sq.e ?_
                by_cases c7_24 : (bt (s) (i)) = (95 : Int)
                · rw [decide_eq_true c7_24]
                  refine AWp.condF rfl rfl ?_
                  refine AWp.skip ?_
                  refine AWp.rowV (l := _) pok ?_
                  refine sq.c (v := .int .i64 (i)) rfl rfl rfl rfl ?_
                  refine sq.c (v := .int .i64 (i + 1)) rfl rfl (okI (wrap_i64 (by omega) (by omega))) rfl ?_
                  refine sq.c (v := .int .i64 (i + 1)) rfl rfl rfl rfl ?_
                  refine sq.e ?_
                  have hy : ∀ j : Nat, (j : Int) < i + 1 → letterB (bt s (j : Nat)) (decide (j = 0)) = true := by
                    intro j hj
                    rcases Int.lt_or_eq_of_le (show (j : Int) ≤ i by omega) with q | q
                    · exact hyes j q
                    · subst q
                      rw [show decide (j = 0) = decide ((j : Int) = 0) from decide_eq_decide.2 (by omega)]
                      exact letter_yes (by omega)
                  refine ⟨_, _, rfl, by omega, i + 1, rfl, rfl, hn, hf, (by omega), (by omega), (by omega), (hy), getV [undef, undef, (y3 2), undef, .int .u8 (bt (s) (i)), undef, undef, undef, undef, undef, undef, undef, undef, undef, undef, undef, undef, undef, undef, undef, undef, undef, .int .i64 (i), .string (s), .int .i64 ((s).data.toList.length), .bool true, .int .i64 (i), .int .i64 (i + 1), .string (s), .int .i64 (i), .int .u8 (bt (s) (i)), .int .u8 (bt (s) (i)), .bool true, .bool true, .int .u8 (bt (s) (i)), .bool false, .bool false, .bool false, .int .u8 (bt (s) (i)), .bool true, .bool true, .int .u8 (bt (s) (i)), .bool false, .bool false, .bool false, .bool false, .int .u8 (bt (s) (i)), .bool false, .bool false, undef, undef, .bool false, .bool false, .bool false, .int .u8 (bt (s) (i)), .bool true, .bool true, .bool false], rfl⟩
                · rw [decide_eq_false c7_24]
                  refine AWp.condT rfl rfl ?_
                  refine AWp.seq ?_
                  refine AWp.rowV (l := _) pok ?_
                  refine sq.c (v := .bool false) rfl rfl rfl rfl ?_
                  refine sq.e ?_
                  refine AWp.ret ?_
                  -- end 5: J3 L4 c4_3 c7_1 ¬c7_4 c7_8 ¬c7_11 ¬c7_16 ¬c7_24
                  refine ⟨rfl, [.bool false], rfl, .bool false, rfl, hs, hn, ?_⟩
                  show Value.bool false = .bool (mayNameB s)
                  unfold mayNameB
                  rw [all_range_false (i := i.toNat) (by omega) (by
                    show letterB (bt s ((i.toNat : Nat) : Int)) (decide (i.toNat = 0)) = false
                    rw [show ((i.toNat : Nat) : Int) = i by omega]
                    exact letter_no (by omega) (by omega)), Bool.and_false]
          · rw [decide_eq_false c7_8]
            refine sq.s (wantF (g := 9) (d := 40) rfl rfl rfl) rfl ?_
            refine sq.s (wantF (g := 9) (d := 40) rfl rfl rfl) rfl ?_
            refine sq.c (v := .bool false) (wantT (g := 6) (d := 37) rfl rfl rfl) rfl rfl rfl ?_
            refine sq.c (v := .bool false) rfl rfl rfl rfl ?_
            refine sq.c (v := .bool false) rfl rfl rfl rfl ?_
            refine sq.c (v := .int .u8 (bt (s) (i))) (wantT (g := 14) (d := 45) rfl rfl rfl) rfl rfl rfl ?_
            refine sq.c (v := .bool (decide ((48 : Int) ≤ (bt (s) (i))))) (wantT (g := 14) (d := 45) rfl rfl rfl) rfl rfl rfl ?_
            refine sq.c (v := .bool (decide ((48 : Int) ≤ (bt (s) (i))))) (wantT (g := 14) (d := 45) rfl rfl rfl) rfl rfl rfl ?_
            by_cases c7_16 : (48 : Int) ≤ (bt (s) (i))
            · rw [decide_eq_true c7_16]
              refine sq.c (v := .int .u8 (bt (s) (i))) (wantT (g := 17) (d := 48) rfl rfl rfl) rfl rfl rfl ?_
              refine sq.c (v := .bool (decide ((bt (s) (i)) ≤ (57 : Int)))) (wantT (g := 17) (d := 48) rfl rfl rfl) rfl rfl rfl ?_
              refine sq.c (v := .bool (decide ((bt (s) (i)) ≤ (57 : Int)))) (wantT (g := 14) (d := 45) rfl rfl rfl) rfl rfl rfl ?_
              refine sq.c (v := .bool (decide ((bt (s) (i)) ≤ (57 : Int)))) rfl rfl rfl rfl ?_
              refine sq.c (v := .bool (decide ((bt (s) (i)) ≤ (57 : Int)))) rfl rfl rfl rfl ?_
              by_cases c7_19 : (bt (s) (i)) ≤ (57 : Int)
              · rw [decide_eq_true c7_19]
                refine sq.s (wantF (g := 22) (d := 53) rfl rfl rfl) rfl ?_
                refine sq.s (wantF (g := 22) (d := 53) rfl rfl rfl) rfl ?_
                refine sq.c (v := .bool true) rfl rfl rfl rfl ?_
                refine sq.c (v := .bool false) rfl rfl rfl rfl ?_
                refine sq.e ?_
                refine AWp.condF rfl rfl ?_
                refine AWp.skip ?_
                refine AWp.rowV (l := _) pok ?_
                refine sq.c (v := .int .i64 (i)) rfl rfl rfl rfl ?_
                refine sq.c (v := .int .i64 (i + 1)) rfl rfl (okI (wrap_i64 (by omega) (by omega))) rfl ?_
                refine sq.c (v := .int .i64 (i + 1)) rfl rfl rfl rfl ?_
                refine sq.e ?_
                have hy : ∀ j : Nat, (j : Int) < i + 1 → letterB (bt s (j : Nat)) (decide (j = 0)) = true := by
                  intro j hj
                  rcases Int.lt_or_eq_of_le (show (j : Int) ≤ i by omega) with q | q
                  · exact hyes j q
                  · subst q
                    rw [show decide (j = 0) = decide ((j : Int) = 0) from decide_eq_decide.2 (by omega)]
                    have hj0 : ¬ (j : Int) = 0 := by
                      intro e
                      rw [e] at c7_16 c7_19
                      exact hnd ⟨c7_16, c7_19⟩
                    rw [letter_digit (by omega), decide_eq_false hj0]; rfl
                refine ⟨_, _, rfl, by omega, i + 1, rfl, rfl, hn, hf, (by omega), (by omega), (by omega), (hy), getV [undef, undef, (y3 2), undef, .int .u8 (bt (s) (i)), undef, undef, undef, undef, undef, undef, undef, undef, undef, undef, undef, undef, undef, undef, undef, undef, undef, .int .i64 (i), .string (s), .int .i64 ((s).data.toList.length), .bool true, .int .i64 (i), .int .i64 (i + 1), .string (s), .int .i64 (i), .int .u8 (bt (s) (i)), .int .u8 (bt (s) (i)), .bool true, .bool true, .int .u8 (bt (s) (i)), .bool false, .bool false, .bool false, .int .u8 (bt (s) (i)), .bool false, .bool false, undef, undef, .bool false, .bool false, .bool false, .int .u8 (bt (s) (i)), .bool true, .bool true, .int .u8 (bt (s) (i)), .bool true, .bool true, .bool true, .bool true, undef, undef, .bool true, .bool false], rfl⟩
              · rw [decide_eq_false c7_19]
                refine sq.c (v := .int .u8 (bt (s) (i))) (wantT (g := 22) (d := 53) rfl rfl rfl) rfl rfl rfl ?_
                refine sq.c (v := .bool (decide ((bt (s) (i)) = (95 : Int)))) (wantT (g := 22) (d := 53) rfl rfl rfl) rfl rfl rfl ?_
                refine sq.c (v := .bool (decide ((bt (s) (i)) = (95 : Int)))) rfl rfl rfl rfl ?_
                refine sq.c (v := .bool (!decide ((bt (s) (i)) = (95 : Int)))) rfl rfl rfl rfl ?_
                refine sq.e ?_
                by_cases c7_24 : (bt (s) (i)) = (95 : Int)
                · rw [decide_eq_true c7_24]
                  refine AWp.condF rfl rfl ?_
                  refine AWp.skip ?_
                  refine AWp.rowV (l := _) pok ?_
                  refine sq.c (v := .int .i64 (i)) rfl rfl rfl rfl ?_
                  refine sq.c (v := .int .i64 (i + 1)) rfl rfl (okI (wrap_i64 (by omega) (by omega))) rfl ?_
                  refine sq.c (v := .int .i64 (i + 1)) rfl rfl rfl rfl ?_
                  refine sq.e ?_
                  have hy : ∀ j : Nat, (j : Int) < i + 1 → letterB (bt s (j : Nat)) (decide (j = 0)) = true := by
                    intro j hj
                    rcases Int.lt_or_eq_of_le (show (j : Int) ≤ i by omega) with q | q
                    · exact hyes j q
                    · subst q
                      rw [show decide (j = 0) = decide ((j : Int) = 0) from decide_eq_decide.2 (by omega)]
                      exact letter_yes (by omega)
                  refine ⟨_, _, rfl, by omega, i + 1, rfl, rfl, hn, hf, (by omega), (by omega), (by omega), (hy), getV [undef, undef, (y3 2), undef, .int .u8 (bt (s) (i)), undef, undef, undef, undef, undef, undef, undef, undef, undef, undef, undef, undef, undef, undef, undef, undef, undef, .int .i64 (i), .string (s), .int .i64 ((s).data.toList.length), .bool true, .int .i64 (i), .int .i64 (i + 1), .string (s), .int .i64 (i), .int .u8 (bt (s) (i)), .int .u8 (bt (s) (i)), .bool true, .bool true, .int .u8 (bt (s) (i)), .bool false, .bool false, .bool false, .int .u8 (bt (s) (i)), .bool false, .bool false, undef, undef, .bool false, .bool false, .bool false, .int .u8 (bt (s) (i)), .bool true, .bool true, .int .u8 (bt (s) (i)), .bool false, .bool false, .bool false, .bool false, .int .u8 (bt (s) (i)), .bool true, .bool true, .bool false], rfl⟩
                · rw [decide_eq_false c7_24]
                  refine AWp.condT rfl rfl ?_
                  refine AWp.seq ?_
                  refine AWp.rowV (l := _) pok ?_
                  refine sq.c (v := .bool false) rfl rfl rfl rfl ?_
                  refine sq.e ?_
                  refine AWp.ret ?_
                  -- end 6: J3 L4 c4_3 c7_1 ¬c7_4 ¬c7_8 c7_16 ¬c7_19 ¬c7_24
                  refine ⟨rfl, [.bool false], rfl, .bool false, rfl, hs, hn, ?_⟩
                  show Value.bool false = .bool (mayNameB s)
                  unfold mayNameB
                  rw [all_range_false (i := i.toNat) (by omega) (by
                    show letterB (bt s ((i.toNat : Nat) : Int)) (decide (i.toNat = 0)) = false
                    rw [show ((i.toNat : Nat) : Int) = i by omega]
                    exact letter_no (by omega) (by omega)), Bool.and_false]
            · rw [decide_eq_false c7_16]
              refine sq.s (wantF (g := 17) (d := 48) rfl rfl rfl) rfl ?_
              refine sq.s (wantF (g := 17) (d := 48) rfl rfl rfl) rfl ?_
              refine sq.c (v := .bool false) (wantT (g := 14) (d := 45) rfl rfl rfl) rfl rfl rfl ?_
              refine sq.c (v := .bool false) rfl rfl rfl rfl ?_
              refine sq.c (v := .bool false) rfl rfl rfl rfl ?_
              refine sq.c (v := .int .u8 (bt (s) (i))) (wantT (g := 22) (d := 53) rfl rfl rfl) rfl rfl rfl ?_
              refine sq.c (v := .bool (decide ((bt (s) (i)) = (95 : Int)))) (wantT (g := 22) (d := 53) rfl rfl rfl) rfl rfl rfl ?_
              refine sq.c (v := .bool (decide ((bt (s) (i)) = (95 : Int)))) rfl rfl rfl rfl ?_
              refine sq.c (v := .bool (!decide ((bt (s) (i)) = (95 : Int)))) rfl rfl rfl rfl ?_
              refine sq.e ?_
              by_cases c7_24 : (bt (s) (i)) = (95 : Int)
              · rw [decide_eq_true c7_24]
                refine AWp.condF rfl rfl ?_
                refine AWp.skip ?_
                refine AWp.rowV (l := _) pok ?_
                refine sq.c (v := .int .i64 (i)) rfl rfl rfl rfl ?_
                refine sq.c (v := .int .i64 (i + 1)) rfl rfl (okI (wrap_i64 (by omega) (by omega))) rfl ?_
                refine sq.c (v := .int .i64 (i + 1)) rfl rfl rfl rfl ?_
                refine sq.e ?_
                have hy : ∀ j : Nat, (j : Int) < i + 1 → letterB (bt s (j : Nat)) (decide (j = 0)) = true := by
                  intro j hj
                  rcases Int.lt_or_eq_of_le (show (j : Int) ≤ i by omega) with q | q
                  · exact hyes j q
                  · subst q
                    rw [show decide (j = 0) = decide ((j : Int) = 0) from decide_eq_decide.2 (by omega)]
                    exact letter_yes (by omega)
                refine ⟨_, _, rfl, by omega, i + 1, rfl, rfl, hn, hf, (by omega), (by omega), (by omega), (hy), getV [undef, undef, (y3 2), undef, .int .u8 (bt (s) (i)), undef, undef, undef, undef, undef, undef, undef, undef, undef, undef, undef, undef, undef, undef, undef, undef, undef, .int .i64 (i), .string (s), .int .i64 ((s).data.toList.length), .bool true, .int .i64 (i), .int .i64 (i + 1), .string (s), .int .i64 (i), .int .u8 (bt (s) (i)), .int .u8 (bt (s) (i)), .bool true, .bool true, .int .u8 (bt (s) (i)), .bool false, .bool false, .bool false, .int .u8 (bt (s) (i)), .bool false, .bool false, undef, undef, .bool false, .bool false, .bool false, .int .u8 (bt (s) (i)), .bool false, .bool false, undef, undef, .bool false, .bool false, .bool false, .int .u8 (bt (s) (i)), .bool true, .bool true, .bool false], rfl⟩
              · rw [decide_eq_false c7_24]
                refine AWp.condT rfl rfl ?_
                refine AWp.seq ?_
                refine AWp.rowV (l := _) pok ?_
                refine sq.c (v := .bool false) rfl rfl rfl rfl ?_
                refine sq.e ?_
                refine AWp.ret ?_
                -- end 7: J3 L4 c4_3 c7_1 ¬c7_4 ¬c7_8 ¬c7_16 ¬c7_24
                refine ⟨rfl, [.bool false], rfl, .bool false, rfl, hs, hn, ?_⟩
                show Value.bool false = .bool (mayNameB s)
                unfold mayNameB
                rw [all_range_false (i := i.toNat) (by omega) (by
                  show letterB (bt s ((i.toNat : Nat) : Int)) (decide (i.toNat = 0)) = false
                  rw [show ((i.toNat : Nat) : Int) = i by omega]
                  exact letter_no (by omega) (by omega)), Bool.and_false]
      · rw [decide_eq_false c7_1]
        refine sq.s (wantF (g := 2) (d := 33) rfl rfl rfl) rfl ?_
        refine sq.s (wantF (g := 2) (d := 33) rfl rfl rfl) rfl ?_
        refine sq.c (v := .bool false) rfl rfl rfl rfl ?_
        refine sq.c (v := .bool false) rfl rfl rfl rfl ?_
        refine sq.c (v := .int .u8 (bt (s) (i))) (wantT (g := 6) (d := 37) rfl rfl rfl) rfl rfl rfl ?_
        refine sq.c (v := .bool (decide ((65 : Int) ≤ (bt (s) (i))))) (wantT (g := 6) (d := 37) rfl rfl rfl) rfl rfl rfl ?_
        refine sq.c (v := .bool (decide ((65 : Int) ≤ (bt (s) (i))))) (wantT (g := 6) (d := 37) rfl rfl rfl) rfl rfl rfl ?_
        by_cases c7_8 : (65 : Int) ≤ (bt (s) (i))
        · rw [decide_eq_true c7_8]
          refine sq.c (v := .int .u8 (bt (s) (i))) (wantT (g := 9) (d := 40) rfl rfl rfl) rfl rfl rfl ?_
          refine sq.c (v := .bool (decide ((bt (s) (i)) ≤ (90 : Int)))) (wantT (g := 9) (d := 40) rfl rfl rfl) rfl rfl rfl ?_
          refine sq.c (v := .bool (decide ((bt (s) (i)) ≤ (90 : Int)))) (wantT (g := 6) (d := 37) rfl rfl rfl) rfl rfl rfl ?_
          refine sq.c (v := .bool (decide ((bt (s) (i)) ≤ (90 : Int)))) rfl rfl rfl rfl ?_
          refine sq.c (v := .bool (decide ((bt (s) (i)) ≤ (90 : Int)))) rfl rfl rfl rfl ?_
          by_cases c7_11 : (bt (s) (i)) ≤ (90 : Int)
          · rw [decide_eq_true c7_11]
            refine sq.s (wantF (g := 14) (d := 45) rfl rfl rfl) rfl ?_
            refine sq.s (wantF (g := 14) (d := 45) rfl rfl rfl) rfl ?_
            refine sq.s (wantF (g := 14) (d := 45) rfl rfl rfl) rfl ?_
            refine sq.s (wantU (g := 17) (d := 48) rfl rfl rfl) rfl ?_
            refine sq.s (wantU (g := 17) (d := 48) rfl rfl rfl) rfl ?_
            refine sq.s (wantF (g := 14) (d := 45) rfl rfl rfl) rfl ?_
            refine sq.c (v := .bool true) rfl rfl rfl rfl ?_
            refine sq.c (v := .bool true) rfl rfl rfl rfl ?_
            refine sq.s (wantF (g := 22) (d := 53) rfl rfl rfl) rfl ?_
            refine sq.s (wantF (g := 22) (d := 53) rfl rfl rfl) rfl ?_
            refine sq.c (v := .bool true) rfl rfl rfl rfl ?_
            refine sq.c (v := .bool false) rfl rfl rfl rfl ?_
            refine sq.e ?_
            refine AWp.condF rfl rfl ?_
            refine AWp.skip ?_
            refine AWp.rowV (l := _) pok ?_
            refine sq.c (v := .int .i64 (i)) rfl rfl rfl rfl ?_
            refine sq.c (v := .int .i64 (i + 1)) rfl rfl (okI (wrap_i64 (by omega) (by omega))) rfl ?_
            refine sq.c (v := .int .i64 (i + 1)) rfl rfl rfl rfl ?_
            refine sq.e ?_
            have hy : ∀ j : Nat, (j : Int) < i + 1 → letterB (bt s (j : Nat)) (decide (j = 0)) = true := by
              intro j hj
              rcases Int.lt_or_eq_of_le (show (j : Int) ≤ i by omega) with q | q
              · exact hyes j q
              · subst q
                rw [show decide (j = 0) = decide ((j : Int) = 0) from decide_eq_decide.2 (by omega)]
                exact letter_yes (by omega)
            refine ⟨_, _, rfl, by omega, i + 1, rfl, rfl, hn, hf, (by omega), (by omega), (by omega), (hy), getV [undef, undef, (y3 2), undef, .int .u8 (bt (s) (i)), undef, undef, undef, undef, undef, undef, undef, undef, undef, undef, undef, undef, undef, undef, undef, undef, undef, .int .i64 (i), .string (s), .int .i64 ((s).data.toList.length), .bool true, .int .i64 (i), .int .i64 (i + 1), .string (s), .int .i64 (i), .int .u8 (bt (s) (i)), .int .u8 (bt (s) (i)), .bool false, .bool false, undef, undef, .bool false, .bool false, .int .u8 (bt (s) (i)), .bool true, .bool true, .int .u8 (bt (s) (i)), .bool true, .bool true, .bool true, .bool true, undef, undef, undef, undef, undef, undef, .bool true, .bool true, undef, undef, .bool true, .bool false], rfl⟩
          · rw [decide_eq_false c7_11]
            refine sq.c (v := .int .u8 (bt (s) (i))) (wantT (g := 14) (d := 45) rfl rfl rfl) rfl rfl rfl ?_
            refine sq.c (v := .bool (decide ((48 : Int) ≤ (bt (s) (i))))) (wantT (g := 14) (d := 45) rfl rfl rfl) rfl rfl rfl ?_
            refine sq.c (v := .bool (decide ((48 : Int) ≤ (bt (s) (i))))) (wantT (g := 14) (d := 45) rfl rfl rfl) rfl rfl rfl ?_
            by_cases c7_16 : (48 : Int) ≤ (bt (s) (i))
            · rw [decide_eq_true c7_16]
              refine sq.c (v := .int .u8 (bt (s) (i))) (wantT (g := 17) (d := 48) rfl rfl rfl) rfl rfl rfl ?_
              refine sq.c (v := .bool (decide ((bt (s) (i)) ≤ (57 : Int)))) (wantT (g := 17) (d := 48) rfl rfl rfl) rfl rfl rfl ?_
              refine sq.c (v := .bool (decide ((bt (s) (i)) ≤ (57 : Int)))) (wantT (g := 14) (d := 45) rfl rfl rfl) rfl rfl rfl ?_
              refine sq.c (v := .bool (decide ((bt (s) (i)) ≤ (57 : Int)))) rfl rfl rfl rfl ?_
              refine sq.c (v := .bool (decide ((bt (s) (i)) ≤ (57 : Int)))) rfl rfl rfl rfl ?_
              by_cases c7_19 : (bt (s) (i)) ≤ (57 : Int)
              · rw [decide_eq_true c7_19]
                refine sq.s (wantF (g := 22) (d := 53) rfl rfl rfl) rfl ?_
                refine sq.s (wantF (g := 22) (d := 53) rfl rfl rfl) rfl ?_
                refine sq.c (v := .bool true) rfl rfl rfl rfl ?_
                refine sq.c (v := .bool false) rfl rfl rfl rfl ?_
                refine sq.e ?_
                refine AWp.condF rfl rfl ?_
                refine AWp.skip ?_
                refine AWp.rowV (l := _) pok ?_
                refine sq.c (v := .int .i64 (i)) rfl rfl rfl rfl ?_
                refine sq.c (v := .int .i64 (i + 1)) rfl rfl (okI (wrap_i64 (by omega) (by omega))) rfl ?_
                refine sq.c (v := .int .i64 (i + 1)) rfl rfl rfl rfl ?_
                refine sq.e ?_
                have hy : ∀ j : Nat, (j : Int) < i + 1 → letterB (bt s (j : Nat)) (decide (j = 0)) = true := by
                  intro j hj
                  rcases Int.lt_or_eq_of_le (show (j : Int) ≤ i by omega) with q | q
                  · exact hyes j q
                  · subst q
                    rw [show decide (j = 0) = decide ((j : Int) = 0) from decide_eq_decide.2 (by omega)]
                    have hj0 : ¬ (j : Int) = 0 := by
                      intro e
                      rw [e] at c7_16 c7_19
                      exact hnd ⟨c7_16, c7_19⟩
                    rw [letter_digit (by omega), decide_eq_false hj0]; rfl
                refine ⟨_, _, rfl, by omega, i + 1, rfl, rfl, hn, hf, (by omega), (by omega), (by omega), (hy), getV [undef, undef, (y3 2), undef, .int .u8 (bt (s) (i)), undef, undef, undef, undef, undef, undef, undef, undef, undef, undef, undef, undef, undef, undef, undef, undef, undef, .int .i64 (i), .string (s), .int .i64 ((s).data.toList.length), .bool true, .int .i64 (i), .int .i64 (i + 1), .string (s), .int .i64 (i), .int .u8 (bt (s) (i)), .int .u8 (bt (s) (i)), .bool false, .bool false, undef, undef, .bool false, .bool false, .int .u8 (bt (s) (i)), .bool true, .bool true, .int .u8 (bt (s) (i)), .bool false, .bool false, .bool false, .bool false, .int .u8 (bt (s) (i)), .bool true, .bool true, .int .u8 (bt (s) (i)), .bool true, .bool true, .bool true, .bool true, undef, undef, .bool true, .bool false], rfl⟩
              · rw [decide_eq_false c7_19]
                refine sq.c (v := .int .u8 (bt (s) (i))) (wantT (g := 22) (d := 53) rfl rfl rfl) rfl rfl rfl ?_
                refine sq.c (v := .bool (decide ((bt (s) (i)) = (95 : Int)))) (wantT (g := 22) (d := 53) rfl rfl rfl) rfl rfl rfl ?_
                refine sq.c (v := .bool (decide ((bt (s) (i)) = (95 : Int)))) rfl rfl rfl rfl ?_
                refine sq.c (v := .bool (!decide ((bt (s) (i)) = (95 : Int)))) rfl rfl rfl rfl ?_
                refine sq.e ?_
                by_cases c7_24 : (bt (s) (i)) = (95 : Int)
                · rw [decide_eq_true c7_24]
                  refine AWp.condF rfl rfl ?_
                  refine AWp.skip ?_
                  refine AWp.rowV (l := _) pok ?_
                  refine sq.c (v := .int .i64 (i)) rfl rfl rfl rfl ?_
                  refine sq.c (v := .int .i64 (i + 1)) rfl rfl (okI (wrap_i64 (by omega) (by omega))) rfl ?_
                  refine sq.c (v := .int .i64 (i + 1)) rfl rfl rfl rfl ?_
                  refine sq.e ?_
                  have hy : ∀ j : Nat, (j : Int) < i + 1 → letterB (bt s (j : Nat)) (decide (j = 0)) = true := by
                    intro j hj
                    rcases Int.lt_or_eq_of_le (show (j : Int) ≤ i by omega) with q | q
                    · exact hyes j q
                    · subst q
                      rw [show decide (j = 0) = decide ((j : Int) = 0) from decide_eq_decide.2 (by omega)]
                      exact letter_yes (by omega)
                  refine ⟨_, _, rfl, by omega, i + 1, rfl, rfl, hn, hf, (by omega), (by omega), (by omega), (hy), getV [undef, undef, (y3 2), undef, .int .u8 (bt (s) (i)), undef, undef, undef, undef, undef, undef, undef, undef, undef, undef, undef, undef, undef, undef, undef, undef, undef, .int .i64 (i), .string (s), .int .i64 ((s).data.toList.length), .bool true, .int .i64 (i), .int .i64 (i + 1), .string (s), .int .i64 (i), .int .u8 (bt (s) (i)), .int .u8 (bt (s) (i)), .bool false, .bool false, undef, undef, .bool false, .bool false, .int .u8 (bt (s) (i)), .bool true, .bool true, .int .u8 (bt (s) (i)), .bool false, .bool false, .bool false, .bool false, .int .u8 (bt (s) (i)), .bool true, .bool true, .int .u8 (bt (s) (i)), .bool false, .bool false, .bool false, .bool false, .int .u8 (bt (s) (i)), .bool true, .bool true, .bool false], rfl⟩
                · rw [decide_eq_false c7_24]
                  refine AWp.condT rfl rfl ?_
                  refine AWp.seq ?_
                  refine AWp.rowV (l := _) pok ?_
                  refine sq.c (v := .bool false) rfl rfl rfl rfl ?_
                  refine sq.e ?_
                  refine AWp.ret ?_
                  -- end 8: J3 L4 c4_3 ¬c7_1 c7_8 ¬c7_11 c7_16 ¬c7_19 ¬c7_24
                  refine ⟨rfl, [.bool false], rfl, .bool false, rfl, hs, hn, ?_⟩
                  show Value.bool false = .bool (mayNameB s)
                  unfold mayNameB
                  rw [all_range_false (i := i.toNat) (by omega) (by
                    show letterB (bt s ((i.toNat : Nat) : Int)) (decide (i.toNat = 0)) = false
                    rw [show ((i.toNat : Nat) : Int) = i by omega]
                    exact letter_no (by omega) (by omega)), Bool.and_false]
            · rw [decide_eq_false c7_16]
              refine sq.s (wantF (g := 17) (d := 48) rfl rfl rfl) rfl ?_
              refine sq.s (wantF (g := 17) (d := 48) rfl rfl rfl) rfl ?_
              refine sq.c (v := .bool false) (wantT (g := 14) (d := 45) rfl rfl rfl) rfl rfl rfl ?_
              refine sq.c (v := .bool false) rfl rfl rfl rfl ?_
              refine sq.c (v := .bool false) rfl rfl rfl rfl ?_
              refine sq.c (v := .int .u8 (bt (s) (i))) (wantT (g := 22) (d := 53) rfl rfl rfl) rfl rfl rfl ?_
              refine sq.c (v := .bool (decide ((bt (s) (i)) = (95 : Int)))) (wantT (g := 22) (d := 53) rfl rfl rfl) rfl rfl rfl ?_
              refine sq.c (v := .bool (decide ((bt (s) (i)) = (95 : Int)))) rfl rfl rfl rfl ?_
              refine sq.c (v := .bool (!decide ((bt (s) (i)) = (95 : Int)))) rfl rfl rfl rfl ?_
              refine sq.e ?_
              by_cases c7_24 : (bt (s) (i)) = (95 : Int)
              · rw [decide_eq_true c7_24]
                refine AWp.condF rfl rfl ?_
                refine AWp.skip ?_
                refine AWp.rowV (l := _) pok ?_
                refine sq.c (v := .int .i64 (i)) rfl rfl rfl rfl ?_
                refine sq.c (v := .int .i64 (i + 1)) rfl rfl (okI (wrap_i64 (by omega) (by omega))) rfl ?_
                refine sq.c (v := .int .i64 (i + 1)) rfl rfl rfl rfl ?_
                refine sq.e ?_
                have hy : ∀ j : Nat, (j : Int) < i + 1 → letterB (bt s (j : Nat)) (decide (j = 0)) = true := by
                  intro j hj
                  rcases Int.lt_or_eq_of_le (show (j : Int) ≤ i by omega) with q | q
                  · exact hyes j q
                  · subst q
                    rw [show decide (j = 0) = decide ((j : Int) = 0) from decide_eq_decide.2 (by omega)]
                    exact letter_yes (by omega)
                refine ⟨_, _, rfl, by omega, i + 1, rfl, rfl, hn, hf, (by omega), (by omega), (by omega), (hy), getV [undef, undef, (y3 2), undef, .int .u8 (bt (s) (i)), undef, undef, undef, undef, undef, undef, undef, undef, undef, undef, undef, undef, undef, undef, undef, undef, undef, .int .i64 (i), .string (s), .int .i64 ((s).data.toList.length), .bool true, .int .i64 (i), .int .i64 (i + 1), .string (s), .int .i64 (i), .int .u8 (bt (s) (i)), .int .u8 (bt (s) (i)), .bool false, .bool false, undef, undef, .bool false, .bool false, .int .u8 (bt (s) (i)), .bool true, .bool true, .int .u8 (bt (s) (i)), .bool false, .bool false, .bool false, .bool false, .int .u8 (bt (s) (i)), .bool false, .bool false, undef, undef, .bool false, .bool false, .bool false, .int .u8 (bt (s) (i)), .bool true, .bool true, .bool false], rfl⟩
              · rw [decide_eq_false c7_24]
                refine AWp.condT rfl rfl ?_
                refine AWp.seq ?_
                refine AWp.rowV (l := _) pok ?_
                refine sq.c (v := .bool false) rfl rfl rfl rfl ?_
                refine sq.e ?_
                refine AWp.ret ?_
                -- end 9: J3 L4 c4_3 ¬c7_1 c7_8 ¬c7_11 ¬c7_16 ¬c7_24
                refine ⟨rfl, [.bool false], rfl, .bool false, rfl, hs, hn, ?_⟩
                show Value.bool false = .bool (mayNameB s)
                unfold mayNameB
                rw [all_range_false (i := i.toNat) (by omega) (by
                  show letterB (bt s ((i.toNat : Nat) : Int)) (decide (i.toNat = 0)) = false
                  rw [show ((i.toNat : Nat) : Int) = i by omega]
                  exact letter_no (by omega) (by omega)), Bool.and_false]
        · rw [decide_eq_false c7_8]
          refine sq.s (wantF (g := 9) (d := 40) rfl rfl rfl) rfl ?_
          refine sq.s (wantF (g := 9) (d := 40) rfl rfl rfl) rfl ?_
          refine sq.c (v := .bool false) (wantT (g := 6) (d := 37) rfl rfl rfl) rfl rfl rfl ?_
          refine sq.c (v := .bool false) rfl rfl rfl rfl ?_
          refine sq.c (v := .bool false) rfl rfl rfl rfl ?_
          refine sq.c (v := .int .u8 (bt (s) (i))) (wantT (g := 14) (d := 45) rfl rfl rfl) rfl rfl rfl ?_
          refine sq.c (v := .bool (decide ((48 : Int) ≤ (bt (s) (i))))) (wantT (g := 14) (d := 45) rfl rfl rfl) rfl rfl rfl ?_
          refine sq.c (v := .bool (decide ((48 : Int) ≤ (bt (s) (i))))) (wantT (g := 14) (d := 45) rfl rfl rfl) rfl rfl rfl ?_
          by_cases c7_16 : (48 : Int) ≤ (bt (s) (i))
          · rw [decide_eq_true c7_16]
            refine sq.c (v := .int .u8 (bt (s) (i))) (wantT (g := 17) (d := 48) rfl rfl rfl) rfl rfl rfl ?_
            refine sq.c (v := .bool (decide ((bt (s) (i)) ≤ (57 : Int)))) (wantT (g := 17) (d := 48) rfl rfl rfl) rfl rfl rfl ?_
            refine sq.c (v := .bool (decide ((bt (s) (i)) ≤ (57 : Int)))) (wantT (g := 14) (d := 45) rfl rfl rfl) rfl rfl rfl ?_
            refine sq.c (v := .bool (decide ((bt (s) (i)) ≤ (57 : Int)))) rfl rfl rfl rfl ?_
            refine sq.c (v := .bool (decide ((bt (s) (i)) ≤ (57 : Int)))) rfl rfl rfl rfl ?_
            by_cases c7_19 : (bt (s) (i)) ≤ (57 : Int)
            · rw [decide_eq_true c7_19]
              refine sq.s (wantF (g := 22) (d := 53) rfl rfl rfl) rfl ?_
              refine sq.s (wantF (g := 22) (d := 53) rfl rfl rfl) rfl ?_
              refine sq.c (v := .bool true) rfl rfl rfl rfl ?_
              refine sq.c (v := .bool false) rfl rfl rfl rfl ?_
              refine sq.e ?_
              refine AWp.condF rfl rfl ?_
              refine AWp.skip ?_
              refine AWp.rowV (l := _) pok ?_
              refine sq.c (v := .int .i64 (i)) rfl rfl rfl rfl ?_
              refine sq.c (v := .int .i64 (i + 1)) rfl rfl (okI (wrap_i64 (by omega) (by omega))) rfl ?_
              refine sq.c (v := .int .i64 (i + 1)) rfl rfl rfl rfl ?_
              refine sq.e ?_
              have hy : ∀ j : Nat, (j : Int) < i + 1 → letterB (bt s (j : Nat)) (decide (j = 0)) = true := by
                intro j hj
                rcases Int.lt_or_eq_of_le (show (j : Int) ≤ i by omega) with q | q
                · exact hyes j q
                · subst q
                  rw [show decide (j = 0) = decide ((j : Int) = 0) from decide_eq_decide.2 (by omega)]
                  have hj0 : ¬ (j : Int) = 0 := by
                    intro e
                    rw [e] at c7_16 c7_19
                    exact hnd ⟨c7_16, c7_19⟩
                  rw [letter_digit (by omega), decide_eq_false hj0]; rfl
              refine ⟨_, _, rfl, by omega, i + 1, rfl, rfl, hn, hf, (by omega), (by omega), (by omega), (hy), getV [undef, undef, (y3 2), undef, .int .u8 (bt (s) (i)), undef, undef, undef, undef, undef, undef, undef, undef, undef, undef, undef, undef, undef, undef, undef, undef, undef, .int .i64 (i), .string (s), .int .i64 ((s).data.toList.length), .bool true, .int .i64 (i), .int .i64 (i + 1), .string (s), .int .i64 (i), .int .u8 (bt (s) (i)), .int .u8 (bt (s) (i)), .bool false, .bool false, undef, undef, .bool false, .bool false, .int .u8 (bt (s) (i)), .bool false, .bool false, undef, undef, .bool false, .bool false, .bool false, .int .u8 (bt (s) (i)), .bool true, .bool true, .int .u8 (bt (s) (i)), .bool true, .bool true, .bool true, .bool true, undef, undef, .bool true, .bool false], rfl⟩
            · rw [decide_eq_false c7_19]
              refine sq.c (v := .int .u8 (bt (s) (i))) (wantT (g := 22) (d := 53) rfl rfl rfl) rfl rfl rfl ?_
              refine sq.c (v := .bool (decide ((bt (s) (i)) = (95 : Int)))) (wantT (g := 22) (d := 53) rfl rfl rfl) rfl rfl rfl ?_
              refine sq.c (v := .bool (decide ((bt (s) (i)) = (95 : Int)))) rfl rfl rfl rfl ?_
              refine sq.c (v := .bool (!decide ((bt (s) (i)) = (95 : Int)))) rfl rfl rfl rfl ?_
              refine sq.e ?_
              by_cases c7_24 : (bt (s) (i)) = (95 : Int)
              · rw [decide_eq_true c7_24]
                refine AWp.condF rfl rfl ?_
                refine AWp.skip ?_
                refine AWp.rowV (l := _) pok ?_
                refine sq.c (v := .int .i64 (i)) rfl rfl rfl rfl ?_
                refine sq.c (v := .int .i64 (i + 1)) rfl rfl (okI (wrap_i64 (by omega) (by omega))) rfl ?_
                refine sq.c (v := .int .i64 (i + 1)) rfl rfl rfl rfl ?_
                refine sq.e ?_
                have hy : ∀ j : Nat, (j : Int) < i + 1 → letterB (bt s (j : Nat)) (decide (j = 0)) = true := by
                  intro j hj
                  rcases Int.lt_or_eq_of_le (show (j : Int) ≤ i by omega) with q | q
                  · exact hyes j q
                  · subst q
                    rw [show decide (j = 0) = decide ((j : Int) = 0) from decide_eq_decide.2 (by omega)]
                    exact letter_yes (by omega)
                refine ⟨_, _, rfl, by omega, i + 1, rfl, rfl, hn, hf, (by omega), (by omega), (by omega), (hy), getV [undef, undef, (y3 2), undef, .int .u8 (bt (s) (i)), undef, undef, undef, undef, undef, undef, undef, undef, undef, undef, undef, undef, undef, undef, undef, undef, undef, .int .i64 (i), .string (s), .int .i64 ((s).data.toList.length), .bool true, .int .i64 (i), .int .i64 (i + 1), .string (s), .int .i64 (i), .int .u8 (bt (s) (i)), .int .u8 (bt (s) (i)), .bool false, .bool false, undef, undef, .bool false, .bool false, .int .u8 (bt (s) (i)), .bool false, .bool false, undef, undef, .bool false, .bool false, .bool false, .int .u8 (bt (s) (i)), .bool true, .bool true, .int .u8 (bt (s) (i)), .bool false, .bool false, .bool false, .bool false, .int .u8 (bt (s) (i)), .bool true, .bool true, .bool false], rfl⟩
              · rw [decide_eq_false c7_24]
                refine AWp.condT rfl rfl ?_
                refine AWp.seq ?_
                refine AWp.rowV (l := _) pok ?_
                refine sq.c (v := .bool false) rfl rfl rfl rfl ?_
                refine sq.e ?_
                refine AWp.ret ?_
                -- end 10: J3 L4 c4_3 ¬c7_1 ¬c7_8 c7_16 ¬c7_19 ¬c7_24
                refine ⟨rfl, [.bool false], rfl, .bool false, rfl, hs, hn, ?_⟩
                show Value.bool false = .bool (mayNameB s)
                unfold mayNameB
                rw [all_range_false (i := i.toNat) (by omega) (by
                  show letterB (bt s ((i.toNat : Nat) : Int)) (decide (i.toNat = 0)) = false
                  rw [show ((i.toNat : Nat) : Int) = i by omega]
                  exact letter_no (by omega) (by omega)), Bool.and_false]
          · rw [decide_eq_false c7_16]
            refine sq.s (wantF (g := 17) (d := 48) rfl rfl rfl) rfl ?_
            refine sq.s (wantF (g := 17) (d := 48) rfl rfl rfl) rfl ?_
            refine sq.c (v := .bool false) (wantT (g := 14) (d := 45) rfl rfl rfl) rfl rfl rfl ?_
            refine sq.c (v := .bool false) rfl rfl rfl rfl ?_
            refine sq.c (v := .bool false) rfl rfl rfl rfl ?_
            refine sq.c (v := .int .u8 (bt (s) (i))) (wantT (g := 22) (d := 53) rfl rfl rfl) rfl rfl rfl ?_
            refine sq.c (v := .bool (decide ((bt (s) (i)) = (95 : Int)))) (wantT (g := 22) (d := 53) rfl rfl rfl) rfl rfl rfl ?_
            refine sq.c (v := .bool (decide ((bt (s) (i)) = (95 : Int)))) rfl rfl rfl rfl ?_
            refine sq.c (v := .bool (!decide ((bt (s) (i)) = (95 : Int)))) rfl rfl rfl rfl ?_
            refine sq.e ?_
            by_cases c7_24 : (bt (s) (i)) = (95 : Int)
            · rw [decide_eq_true c7_24]
              refine AWp.condF rfl rfl ?_
              refine AWp.skip ?_
              refine AWp.rowV (l := _) pok ?_
              refine sq.c (v := .int .i64 (i)) rfl rfl rfl rfl ?_
              refine sq.c (v := .int .i64 (i + 1)) rfl rfl (okI (wrap_i64 (by omega) (by omega))) rfl ?_
              refine sq.c (v := .int .i64 (i + 1)) rfl rfl rfl rfl ?_
              refine sq.e ?_
              have hy : ∀ j : Nat, (j : Int) < i + 1 → letterB (bt s (j : Nat)) (decide (j = 0)) = true := by
                intro j hj
                rcases Int.lt_or_eq_of_le (show (j : Int) ≤ i by omega) with q | q
                · exact hyes j q
                · subst q
                  rw [show decide (j = 0) = decide ((j : Int) = 0) from decide_eq_decide.2 (by omega)]
                  exact letter_yes (by omega)
              refine ⟨_, _, rfl, by omega, i + 1, rfl, rfl, hn, hf, (by omega), (by omega), (by omega), (hy), getV [undef, undef, (y3 2), undef, .int .u8 (bt (s) (i)), undef, undef, undef, undef, undef, undef, undef, undef, undef, undef, undef, undef, undef, undef, undef, undef, undef, .int .i64 (i), .string (s), .int .i64 ((s).data.toList.length), .bool true, .int .i64 (i), .int .i64 (i + 1), .string (s), .int .i64 (i), .int .u8 (bt (s) (i)), .int .u8 (bt (s) (i)), .bool false, .bool false, undef, undef, .bool false, .bool false, .int .u8 (bt (s) (i)), .bool false, .bool false, undef, undef, .bool false, .bool false, .bool false, .int .u8 (bt (s) (i)), .bool false, .bool false, undef, undef, .bool false, .bool false, .bool false, .int .u8 (bt (s) (i)), .bool true, .bool true, .bool false], rfl⟩
            · rw [decide_eq_false c7_24]
              refine AWp.condT rfl rfl ?_
              refine AWp.seq ?_
              refine AWp.rowV (l := _) pok ?_
              refine sq.c (v := .bool false) rfl rfl rfl rfl ?_
              refine sq.e ?_
              refine AWp.ret ?_
              -- end 11: J3 L4 c4_3 ¬c7_1 ¬c7_8 ¬c7_16 ¬c7_24
              refine ⟨rfl, [.bool false], rfl, .bool false, rfl, hs, hn, ?_⟩
              show Value.bool false = .bool (mayNameB s)
              unfold mayNameB
              rw [all_range_false (i := i.toNat) (by omega) (by
                show letterB (bt s ((i.toNat : Nat) : Int)) (decide (i.toNat = 0)) = false
                rw [show ((i.toNat : Nat) : Int) = i by omega]
                exact letter_no (by omega) (by omega)), Bool.and_false]
    · rw [decide_eq_false c4_3]
      refine AWp.condF rfl rfl ?_
      refine AWp.exit ?_
      refine AWp.seq ?_
      refine AWp.rowV (l := _) pok ?_
      refine sq.c (v := .bool true) rfl rfl rfl rfl ?_
      refine sq.e ?_
      refine AWp.ret ?_
      -- end 12: J3 L4 ¬c4_3
      refine ⟨rfl, [.bool true], rfl, .bool true, rfl, hs, hn, ?_⟩
      show Value.bool true = .bool (mayNameB s)
      unfold mayNameB
      have hp := bt0_pos c1_1
      rw [all_range (fun j hj => hyes j (by omega)), Bool.and_true]
      exact congrArg Value.bool (decide_eq_true (by omega)).symm

end Go.Proofs.YtkpjfibpaojelaaGreatDoor
