/- labels: the law of keys: LabelsKeys. -/
import Derived.Test.YtkpjfibpaojelaaGreatDoorLabKd
namespace Go.Proofs.YtkpjfibpaojelaaGreatDoor
open Go Go.Abs
set_option maxRecDepth 100000
set_option maxHeartbeats 4000000

theorem str_ne_self (a : ByteArray) : some (Value.bool (!eqS a a)) = some (.bool false) := by
  rw [eqS_of.2 rfl]; rfl
theorem ofB_len (s : ByteArray) : (ofB s).1.length ≤ 16 := by
  unfold ofB
  split
  · split
    · rename_i h
      unfold mayB at h
      rw [Bool.and_eq_true, decide_eq_true_eq] at h
      exact h.1.2
    · simp
  · simp


/-- baton/batonlaw05.LabelsKeys -/
theorem f9_spec {h : Heap} {n : Nat} {a : Option Addr} {cp : Nat} (ls : List Lab) (key : ByteArray) (hl : IsRow encLab h (.slice a ls.length cp) ls) (hld : Laid0 h) :
    Tells Tryz.prog 9 [.slice a (ls.length) cp, .string (key)] h n (.bool true) := by
  refine Makes.tells (Makes.free fun hf => ?_)
  have hs : SubBut h h ([]) := .refl _ _
  have hn : n ≤ n := Nat.le_refl _
  have hf0 := hf
  refine Makes.of_bodyV (args := [.slice a (ls.length) cp, .string (key)]) (vs := [.slice a (ls.length) cp, .string (key), undef, undef, undef, undef, undef, undef, undef, undef, undef, undef, undef, undef, undef, undef, undef, undef, undef, undef, undef, undef, undef, undef, undef, undef, undef, undef, undef, undef, undef, undef, undef, undef, undef, undef, undef, undef, undef, undef, undef, undef, undef, undef, undef, undef, undef, undef, undef, undef, undef, undef, undef, undef, undef, undef]) Tryz.func9 rfl rfl ?_
  refine AWp.seq ?_
  refine AWp.rowV (l := _) pok ?_
  refine sq.c (v := .bool false) rfl rfl rfl rfl ?_
  refine sq.e ?_
  refine AWp.seq ?_
  refine AWp.seq ?_
  refine AWp.rowV (l := _) pok ?_
  refine sq.c (v := .slice a (ls.length) cp) rfl rfl rfl rfl ?_
  refine sq.k rfl (CallsF.fn rfl (by kernel_rfl) rfl rfl) (f12_spec ls (hl.keep hs)) ?_
  rintro _ h1 n2 ⟨b_l, rfl, hb_l⟩ s3 hn2 hf
  refine sq.w ?_
  have hs := hs.trans s3
  have hn := Nat.le_trans hn hn2
  refine sq.c (v := .bool (b_l)) rfl rfl rfl rfl ?_
  rcases Bool.eq_false_or_eq_true (b_l) with c_l | c_l
  · rw [c_l]
    refine sq.s (wantF (g := 2) (d := 13) rfl rfl rfl) rfl ?_
    refine sq.s (wantF (g := 2) (d := 13) rfl rfl rfl) rfl ?_
    refine sq.s (wantF (g := 2) (d := 13) rfl rfl rfl) rfl ?_
    refine sq.c (v := .bool true) rfl rfl rfl rfl ?_
    refine sq.e ?_
    refine AWp.condT rfl rfl ?_
    refine AWp.seq ?_
    refine AWp.rowV (l := _) pok ?_
    refine sq.t (v := .bool true) rfl (CallsF.fn rfl (by kernel_rfl) rfl rfl) (fun hf => f13_spec (hld.keep hs)) hf rfl ?_
    intro n4 hn2 hf
    have hn := Nat.le_trans hn hn2
    refine sq.c (v := .bool true) rfl rfl rfl rfl ?_
    refine sq.e ?_
    refine AWp.ret ?_
    -- end 1: c_l
    refine ⟨rfl, [.bool true], rfl, .bool true, rfl, hs, hn, ?_⟩
    rfl
  · rw [c_l]
    refine sq.c (v := .string (key)) (wantT (g := 2) (d := 13) rfl rfl rfl) rfl rfl rfl ?_
    refine sq.c (v := .int .i64 ((((key).data.toList.length : Nat) : Int))) (wantT (g := 2) (d := 13) rfl rfl rfl) rfl (by kernel_rfl) rfl ?_
    refine sq.c (v := .bool (decide ((3000 : Int) < ((((key).data.toList.length : Nat) : Int))))) (wantT (g := 2) (d := 13) rfl rfl rfl) rfl rfl rfl ?_
    refine sq.c (v := .bool (decide ((3000 : Int) < ((((key).data.toList.length : Nat) : Int))))) rfl rfl rfl rfl ?_
    refine sq.e ?_
    by_cases c1_5 : (3000 : Int) < ((((key).data.toList.length : Nat) : Int))
    · rw [decide_eq_true c1_5]
      refine AWp.condT rfl rfl ?_
      refine AWp.seq ?_
      refine AWp.rowV (l := _) pok ?_
      refine sq.t (v := .bool true) rfl (CallsF.fn rfl (by kernel_rfl) rfl rfl) (fun hf => f13_spec (hld.keep hs)) hf rfl ?_
      intro n5 hn2 hf
      have hn := Nat.le_trans hn hn2
      refine sq.c (v := .bool true) rfl rfl rfl rfl ?_
      refine sq.e ?_
      refine AWp.ret ?_
      -- end 2: ¬c_l c1_5
      refine ⟨rfl, [.bool true], rfl, .bool true, rfl, hs, hn, ?_⟩
      rfl
    · rw [decide_eq_false c1_5]
      refine AWp.condF rfl rfl ?_
      refine AWp.skip ?_
      refine AWp.seq ?_
      refine AWp.rowV (l := _) pok ?_
      refine sq.c (v := .slice a (ls.length) cp) rfl rfl rfl rfl ?_
      refine sq.k rfl (CallsF.fn rfl (by kernel_rfl) rfl rfl) (f14_spec ls (hl.keep hs) (by have := (hb_l c_l).1; omega)) ?_
      rintro v_ol h6 n7 R_ol s8 hn2 hf
      have R_ol := R_ol.from hs.sub
      obtain ⟨a_ol, cp_ol, rfl⟩ := R_ol.slice
      refine sq.w ?_
      have hs := hs.trans s8
      have hn := Nat.le_trans hn hn2
      refine sq.c (v := .slice a_ol (ls.length) cp_ol) rfl rfl rfl rfl ?_
      refine sq.e ?_
      refine AWp.seq ?_
      refine AWp.seq ?_
      refine AWp.rowV (l := _) pok ?_
      refine sq.c (v := .slice a_ol (ls.length) cp_ol) rfl rfl rfl rfl ?_
      refine sq.t (v := .string (keyS ls)) rfl (CallsF.fn rfl (by kernel_rfl) rfl rfl) (fun hf => f28_spec ls R_ol.is (hb_l c_l).1 (hb_l c_l).2) hf rfl ?_
      intro n9 hn2 hf
      have hn := Nat.le_trans hn hn2
      refine sq.c (v := .slice a (ls.length) cp) rfl rfl rfl rfl ?_
      refine sq.t (v := .string (keyS ls)) rfl (CallsF.fn rfl (by kernel_rfl) rfl rfl) (fun hf => f34_spec ls (hl.keep hs) (hb_l c_l).1 (hb_l c_l).2) hf rfl ?_
      intro n10 hn2 hf
      have hn := Nat.le_trans hn hn2
      refine sq.c (v := .bool false) rfl rfl (str_ne_self _) rfl ?_
      refine sq.c (v := .bool false) rfl rfl rfl rfl ?_
      refine sq.c (v := .slice a_ol (ls.length) cp_ol) (wantT (g := 5) (d := 26) rfl rfl rfl) rfl rfl rfl ?_
      refine sq.c (v := .slice a (ls.length) cp) (wantT (g := 5) (d := 26) rfl rfl rfl) rfl rfl rfl ?_
      refine sq.k (wantT (g := 5) (d := 26) rfl rfl rfl) (CallsF.fn rfl (by kernel_rfl) rfl rfl) (f17_spec _ _ R_ol (hl.keep hs) (by have := (hb_l c_l).1; omega)) ?_
      rintro _ h11 n12 rfl s13 hn2 hf
      refine sq.w ?_
      have hs := R_ol.fresh hs s13
      have hn := Nat.le_trans hn hn2
      rcases Bool.eq_false_or_eq_true (decide (ls = ls)) with c4_8 | c4_8
      · rw [c4_8]
        refine sq.c (v := .bool false) (wantT (g := 5) (d := 26) rfl rfl rfl) rfl rfl rfl ?_
        refine sq.c (v := .bool false) rfl rfl rfl rfl ?_
        refine sq.e ?_
        refine AWp.condF rfl rfl ?_
        refine AWp.skip ?_
        refine AWp.seq ?_
        refine AWp.seq ?_
        refine AWp.rowV (l := _) pok ?_
        refine sq.c (v := .int .i64 (0)) rfl rfl rfl rfl ?_
        refine sq.e ?_
        refine AWp.block ?_
        have hkl := ofB_len key
        refine AWp.loopV (fun d vs h15 n16 => ∃ (r : Int), d = (2 - r + 1).toNat ∧ SubBut h h15 ([]) ∧ n ≤ n16 ∧ Free h15 n16 ∧ (0 ≤ r) ∧ (r ≤ 2) ∧ ∃ y14 : Nat → Value, vs = [.slice a (ls.length) cp, .string (key), undef, undef, (y14 4), .slice a_ol (ls.length) cp_ol, .int .i64 (r), (y14 7), (y14 8), (y14 9), (y14 10), .slice a (ls.length) cp, .bool false, .bool false, .string (key), .int .i64 ((((key).data.toList.length : Nat) : Int)), .bool false, .bool false, undef, .slice a (ls.length) cp, .slice a_ol (ls.length) cp_ol, .slice a_ol (ls.length) cp_ol, .string (keyS ls), .slice a (ls.length) cp, .string (keyS ls), .bool false, .bool false, .slice a_ol (ls.length) cp_ol, .slice a (ls.length) cp, .bool true, .bool false, .bool false, (y14 32), (y14 33), (y14 34), (y14 35), (y14 36), (y14 37), (y14 38), (y14 39), (y14 40), (y14 41), (y14 42), (y14 43), (y14 44), (y14 45), (y14 46), (y14 47), (y14 48), (y14 49), (y14 50), (y14 51), (y14 52), (y14 53), (y14 54), undef]) ((2 - (0 : Int) + 1).toNat) ⟨0, rfl, hs, hn, hf, (by omega), (by omega), getV [undef, undef, undef, undef, .bool false, undef, undef, undef, undef, undef, undef, undef, undef, undef, undef, undef, undef, undef, undef, undef, undef, undef, undef, undef, undef, undef, undef, undef, undef, undef, undef, undef, undef, undef, undef, undef, undef, undef, undef, undef, undef, undef, undef, undef, undef, undef, undef, undef, undef, undef, undef, undef, undef, undef, undef], rfl⟩ ?_
        rintro d vs h15 n16 ⟨r, rfl, hs, hn, hf, hr0, hr1, y14, rfl⟩
        refine AWp.seq ?_
        refine AWp.seq ?_
        refine AWp.rowV (l := _) pok ?_
        refine sq.c (v := .int .i64 (r)) rfl rfl rfl rfl ?_
        refine sq.c (v := .bool (decide (r < (2 : Int)))) rfl rfl rfl rfl ?_
        refine sq.e ?_
        by_cases c7_1 : r < (2 : Int)
        · rw [decide_eq_true c7_1]
          refine AWp.condT rfl rfl ?_
          refine AWp.skip ?_
          refine AWp.seq ?_
          refine AWp.block ?_
          refine AWp.seq ?_
          refine AWp.rowV (l := _) pok ?_
          refine sq.c (v := .string (key)) rfl rfl rfl rfl ?_
          refine sq.k rfl (CallsF.fn rfl (by kernel_rfl) rfl rfl) (f33_spec key (by omega) (hld.keep hs)) ?_
          rintro _ h17 n18 ⟨a_x, cp_x, rfl, R_x⟩ s19 hn2 hf
          have R_x := R_x.from hs.sub
          refine sq.w ?_
          have hs := hs.trans s19
          have hn := Nat.le_trans hn hn2
          refine sq.c (v := .tuple #[.slice a_x (ofB key).1.length cp_x, .int .i64 ((ofB key).2)]) rfl rfl rfl rfl ?_
          refine sq.c (v := .slice a_x (ofB key).1.length cp_x) rfl rfl rfl rfl ?_
          refine sq.c (v := .int .i64 ((ofB key).2)) rfl rfl rfl rfl ?_
          refine sq.c (v := .slice a_x (ofB key).1.length cp_x) rfl rfl rfl rfl ?_
          refine sq.c (v := .int .i64 ((ofB key).2)) rfl rfl rfl rfl ?_
          refine sq.e ?_
          refine AWp.seq ?_
          refine AWp.rowV (l := _) pok ?_
          refine sq.c (v := .string (key)) rfl rfl rfl rfl ?_
          refine sq.k rfl (CallsF.fn rfl (by kernel_rfl) rfl rfl) (f35_spec key (by omega)) ?_
          rintro _ h20 n21 ⟨a_y, cp_y, rfl, R_y⟩ s22 hn2 hf
          have R_y := R_y.is
          refine sq.w ?_
          have R_x := R_x.keep s22
          have hs := hs.trans s22
          have hn := Nat.le_trans hn hn2
          refine sq.c (v := .tuple #[.slice a_y (ofB key).1.length cp_y, .int .i64 ((ofB key).2)]) rfl rfl rfl rfl ?_
          refine sq.c (v := .slice a_y (ofB key).1.length cp_y) rfl rfl rfl rfl ?_
          refine sq.c (v := .int .i64 ((ofB key).2)) rfl rfl rfl rfl ?_
          refine sq.c (v := .slice a_y (ofB key).1.length cp_y) rfl rfl rfl rfl ?_
          refine sq.c (v := .int .i64 ((ofB key).2)) rfl rfl rfl rfl ?_
          refine sq.e ?_
          refine AWp.seq ?_
          refine AWp.rowV (l := _) pok ?_
          refine sq.c (v := .int .i64 ((ofB key).2)) rfl rfl rfl rfl ?_
          refine sq.c (v := .int .i64 ((ofB key).2)) rfl rfl rfl rfl ?_
          refine sq.c (v := .bool (!decide (((ofB key).2) = ((ofB key).2)))) rfl rfl rfl rfl ?_
          refine sq.c (v := .bool (!decide (((ofB key).2) = ((ofB key).2)))) rfl rfl rfl rfl ?_
          by_cases c11_2 : ((ofB key).2) = ((ofB key).2)
          · rw [decide_eq_true c11_2]
            refine sq.c (v := .slice a_x (ofB key).1.length cp_x) (wantT (g := 3) (d := 49) rfl rfl rfl) rfl rfl rfl ?_
            refine sq.c (v := .slice a_y (ofB key).1.length cp_y) (wantT (g := 3) (d := 49) rfl rfl rfl) rfl rfl rfl ?_
            refine sq.k (wantT (g := 3) (d := 49) rfl rfl rfl) (CallsF.fn rfl (by kernel_rfl) rfl rfl) (f17_spec _ _ R_x R_y (by omega)) ?_
            rintro _ h23 n24 rfl s25 hn2 hf
            refine sq.w ?_
            have hs := R_x.fresh hs s25
            have hn := Nat.le_trans hn hn2
            rcases Bool.eq_false_or_eq_true (decide ((ofB key).1 = (ofB key).1)) with c11_6 | c11_6
            · rw [c11_6]
              refine sq.c (v := .bool false) (wantT (g := 3) (d := 49) rfl rfl rfl) rfl rfl rfl ?_
              refine sq.c (v := .bool false) rfl rfl rfl rfl ?_
              refine sq.e ?_
              refine AWp.condF rfl rfl ?_
              refine AWp.skip ?_
              refine AWp.rowV (l := _) pok ?_
              refine sq.c (v := .int .i64 (r)) rfl rfl rfl rfl ?_
              refine sq.c (v := .int .i64 (r + 1)) rfl rfl (okI (wrap_i64 (by omega) (by omega))) rfl ?_
              refine sq.c (v := .int .i64 (r + 1)) rfl rfl rfl rfl ?_
              refine sq.e ?_
              refine ⟨_, _, rfl, by omega, r + 1, rfl, hs, hn, hf, (by omega), (by omega), getV [undef, undef, undef, undef, (y14 4), undef, undef, .slice a_x (ofB key).1.length cp_x, .int .i64 ((ofB key).2), .slice a_y (ofB key).1.length cp_y, .int .i64 ((ofB key).2), undef, undef, undef, undef, undef, undef, undef, undef, undef, undef, undef, undef, undef, undef, undef, undef, undef, undef, undef, undef, undef, .int .i64 (r), .bool true, .int .i64 (r), .int .i64 (r + 1), .tuple #[.slice a_x (ofB key).1.length cp_x, .int .i64 ((ofB key).2)], .string (key), .tuple #[.slice a_x (ofB key).1.length cp_x, .int .i64 ((ofB key).2)], .slice a_x (ofB key).1.length cp_x, .int .i64 ((ofB key).2), .tuple #[.slice a_y (ofB key).1.length cp_y, .int .i64 ((ofB key).2)], .string (key), .tuple #[.slice a_y (ofB key).1.length cp_y, .int .i64 ((ofB key).2)], .slice a_y (ofB key).1.length cp_y, .int .i64 ((ofB key).2), .int .i64 ((ofB key).2), .int .i64 ((ofB key).2), .bool false, .bool false, .slice a_x (ofB key).1.length cp_x, .slice a_y (ofB key).1.length cp_y, .bool true, .bool false, .bool false], rfl⟩
            · exfalso
              simp at c11_6
          · exfalso
            exact c11_2 rfl
        · rw [decide_eq_false c7_1]
          refine AWp.condF rfl rfl ?_
          refine AWp.exit ?_
          refine AWp.seq ?_
          refine AWp.rowV (l := _) pok ?_
          refine sq.t (v := .bool true) rfl (CallsF.fn rfl (by kernel_rfl) rfl rfl) (fun hf => f13_spec (hld.keep hs)) hf rfl ?_
          intro n26 hn2 hf
          have hn := Nat.le_trans hn hn2
          refine sq.c (v := .bool true) rfl rfl rfl rfl ?_
          refine sq.e ?_
          refine AWp.ret ?_
          -- end 3: ¬c_l ¬c1_5 c4_8 L7 ¬c7_1
          refine ⟨rfl, [.bool true], rfl, .bool true, rfl, hs, hn, ?_⟩
          rfl
      · exfalso
        simp at c4_8

end Go.Proofs.YtkpjfibpaojelaaGreatDoor
