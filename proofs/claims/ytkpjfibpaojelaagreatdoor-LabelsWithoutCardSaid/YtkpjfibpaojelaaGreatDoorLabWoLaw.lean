/- labels: the law of Without: LabelsWithout. -/
import Derived.Test.YtkpjfibpaojelaaGreatDoorLabLess
namespace Go.Proofs.YtkpjfibpaojelaaGreatDoor
open Go Go.Abs
set_option maxRecDepth 100000
set_option maxHeartbeats 4000000


/-- baton/batonlaw05.LabelsWithout -/
theorem f7_spec {h : Heap} {n : Nat} {a : Option Addr} {cp : Nat} (name : ByteArray) (ls : List Lab) (hl : IsRow encLab h (.slice a ls.length cp) ls) (hld : Laid0 h) :
    Tells Tryz.prog 7 [.slice a (ls.length) cp, .string (name)] h n (.bool true) := by
  refine Makes.tells (Makes.free fun hf => ?_)
  have hs : SubBut h h [] := .refl _ _
  have hn : n ≤ n := Nat.le_refl _
  have hf0 := hf
  refine Makes.of_bodyV (args := [.slice a (ls.length) cp, .string (name)]) (vs := [.slice a (ls.length) cp, .string (name), undef, undef, undef, undef, undef, undef, undef, undef, undef, undef, undef, undef, undef, undef, undef, undef, undef, undef, undef, undef, undef, undef, undef, undef, undef, undef, undef, undef, undef, undef, undef, undef, undef, undef, undef, undef, undef, undef, undef, undef, undef, undef, undef, undef, undef, undef, undef, undef, undef, undef, undef, undef, undef, undef, undef, undef, undef, undef, undef, undef, undef, undef, undef, undef, undef, undef, undef, undef, undef, undef, undef, undef, undef, undef, undef, undef, undef, undef, undef, undef, undef, undef, undef, undef, undef, undef, undef, undef, undef, undef, undef, undef, undef, undef, undef, undef, undef, undef, undef, undef, undef, undef, undef, undef, undef, undef, undef, undef, undef, undef, undef, undef, undef, undef, undef, undef, undef]) Tryz.func7 rfl rfl ?_
  refine AWp.seq ?_
  refine AWp.rowV (l := _) pok ?_
  refine sq.c (v := .bool false) rfl rfl rfl rfl ?_
  refine sq.e ?_
  refine AWp.seq ?_
  refine AWp.seq ?_
  refine AWp.rowV (l := _) pok ?_
  refine sq.c (v := .slice a (ls.length) cp) rfl rfl rfl rfl ?_
  refine sq.k rfl (CallsF.fn rfl (by kernel_rfl) rfl rfl) (f12_spec ls (hl.keep hs)) ?_
  rintro _ h1 n2 ⟨b_l, rfl, hb_l⟩ s3 hn2 hf
  refine sq.w ?_
  have hs := hs.trans s3
  have hn := Nat.le_trans hn hn2
  refine sq.c (v := .bool (b_l)) rfl rfl rfl rfl ?_
  rcases Bool.eq_false_or_eq_true (b_l) with c_l | c_l
  · rw [c_l]
    refine sq.s (wantF (g := 2) (d := 15) rfl rfl rfl) rfl ?_
    refine sq.s (wantF (g := 2) (d := 15) rfl rfl rfl) rfl ?_
    refine sq.s (wantF (g := 2) (d := 15) rfl rfl rfl) rfl ?_
    refine sq.c (v := .bool true) rfl rfl rfl rfl ?_
    refine sq.c (v := .bool true) rfl rfl rfl rfl ?_
    refine sq.s (wantF (g := 7) (d := 20) rfl rfl rfl) rfl ?_
    refine sq.s (wantF (g := 7) (d := 20) rfl rfl rfl) rfl ?_
    refine sq.c (v := .bool true) rfl rfl rfl rfl ?_
    refine sq.e ?_
    refine AWp.condT rfl rfl ?_
    refine AWp.seq ?_
    refine AWp.rowV (l := _) pok ?_
    refine sq.t (v := .bool true) rfl (CallsF.fn rfl (by kernel_rfl) rfl rfl) (fun hf => f13_spec (hld.keep hs)) hf rfl ?_
    intro n4 hn2 hf
    have hn := Nat.le_trans hn hn2
    refine sq.c (v := .bool true) rfl rfl rfl rfl ?_
    refine sq.e ?_
    refine AWp.ret ?_
    -- end 1: c_l
    refine ⟨rfl, [.bool true], rfl, .bool true, rfl, hs, hn, ?_⟩
    rfl
  · rw [c_l]
    refine sq.c (v := .string (name)) (wantT (g := 2) (d := 15) rfl rfl rfl) rfl rfl rfl ?_
    refine sq.c (v := .int .i64 ((((name).data.toList.length : Nat) : Int))) (wantT (g := 2) (d := 15) rfl rfl rfl) rfl (by kernel_rfl) rfl ?_
    refine sq.c (v := .bool (decide ((3000 : Int) < ((((name).data.toList.length : Nat) : Int))))) (wantT (g := 2) (d := 15) rfl rfl rfl) rfl rfl rfl ?_
    refine sq.c (v := .bool (decide ((3000 : Int) < ((((name).data.toList.length : Nat) : Int))))) rfl rfl rfl rfl ?_
    refine sq.c (v := .bool (decide ((3000 : Int) < ((((name).data.toList.length : Nat) : Int))))) rfl rfl rfl rfl ?_
    by_cases c1_5 : (3000 : Int) < ((((name).data.toList.length : Nat) : Int))
    · rw [decide_eq_true c1_5]
      refine sq.s (wantF (g := 7) (d := 20) rfl rfl rfl) rfl ?_
      refine sq.s (wantF (g := 7) (d := 20) rfl rfl rfl) rfl ?_
      refine sq.c (v := .bool true) rfl rfl rfl rfl ?_
      refine sq.e ?_
      refine AWp.condT rfl rfl ?_
      refine AWp.seq ?_
      refine AWp.rowV (l := _) pok ?_
      refine sq.t (v := .bool true) rfl (CallsF.fn rfl (by kernel_rfl) rfl rfl) (fun hf => f13_spec (hld.keep hs)) hf rfl ?_
      intro n5 hn2 hf
      have hn := Nat.le_trans hn hn2
      refine sq.c (v := .bool true) rfl rfl rfl rfl ?_
      refine sq.e ?_
      refine AWp.ret ?_
      -- end 2: ¬c_l c1_5
      refine ⟨rfl, [.bool true], rfl, .bool true, rfl, hs, hn, ?_⟩
      rfl
    · rw [decide_eq_false c1_5]
      refine sq.t (v := .bool true) (wantT (g := 7) (d := 20) rfl rfl rfl) (CallsF.fn rfl (by kernel_rfl) rfl rfl) (fun hf => f13_spec (hld.keep hs)) hf rfl ?_
      intro n6 hn2 hf
      have hn := Nat.le_trans hn hn2
      refine sq.c (v := .bool false) (wantT (g := 7) (d := 20) rfl rfl rfl) rfl rfl rfl ?_
      refine sq.c (v := .bool false) rfl rfl rfl rfl ?_
      refine sq.e ?_
      refine AWp.condF rfl rfl ?_
      refine AWp.skip ?_
      refine AWp.seq ?_
      refine AWp.rowV (l := _) pok ?_
      refine sq.c (v := .slice a (ls.length) cp) rfl rfl rfl rfl ?_
      refine sq.c (v := .string (name)) rfl rfl rfl rfl ?_
      refine sq.k rfl (CallsF.fn rfl (by kernel_rfl) rfl rfl) (f31_spec ls name (hl.keep hs) (by have := (hb_l c_l).1; omega)) ?_
      rintro v_w h7 n8 R_w s9 hn2 hf
      obtain ⟨a_w, cp_w, rfl⟩ := R_w.slice
      have hwl : (woN name ls).length ≤ ls.length := List.length_filter_le _ _
      refine sq.w ?_
      have hs := hs.trans s9
      have hn := Nat.le_trans hn hn2
      refine sq.c (v := .slice a_w (woN name ls).length cp_w) rfl rfl rfl rfl ?_
      refine sq.e ?_
      refine AWp.seq ?_
      refine AWp.rowV (l := _) pok ?_
      refine sq.c (v := .slice a (ls.length) cp) rfl rfl rfl rfl ?_
      refine sq.c (v := .string (name)) rfl rfl rfl rfl ?_
      refine sq.t (v := .tuple #[.string (getV1 ls name), .bool (getV2 ls name)]) rfl (CallsF.fn rfl (by kernel_rfl) rfl rfl) (fun hf => f29_spec ls name (hl.keep hs) (by have := (hb_l c_l).1; omega)) hf rfl ?_
      intro n10 hn2 hf
      have hn := Nat.le_trans hn hn2
      refine sq.c (v := .tuple #[.string (getV1 ls name), .bool (getV2 ls name)]) rfl rfl rfl rfl ?_
      refine sq.c (v := .string (getV1 ls name)) rfl rfl rfl rfl ?_
      refine sq.c (v := .bool (getV2 ls name)) rfl rfl rfl rfl ?_
      refine sq.c (v := .string (getV1 ls name)) rfl rfl rfl rfl ?_
      refine sq.c (v := .bool (getV2 ls name)) rfl rfl rfl rfl ?_
      refine sq.e ?_
      refine AWp.seq ?_
      refine AWp.rowV (l := _) pok ?_
      refine sq.c (v := .int .i64 (0)) rfl rfl rfl rfl ?_
      refine sq.e ?_
      refine AWp.seq ?_
      refine AWp.rowV (l := _) pok ?_
      refine sq.c (v := .bool false) rfl rfl rfl rfl ?_
      refine sq.e ?_
      refine AWp.seq ?_
      refine AWp.seq ?_
      refine AWp.rowV (l := _) pok ?_
      refine sq.c (v := .int .i64 (0)) rfl rfl rfl rfl ?_
      refine sq.e ?_
      refine AWp.block ?_
      have hlb := (hb_l c_l).1
      refine AWp.loopV (fun d vs h7' n12 => ∃ (i k : Int) (fd : Bool), d = ((ls.length : Nat) - i + 1).toNat ∧ h7 = h7' ∧ n ≤ n12 ∧ Free h7 n12 ∧ (0 ≤ i) ∧ (i ≤ (ls.length : Nat)) ∧ (k = ((woN name (ls.take i.toNat)).length : Nat)) ∧ (k ≤ i) ∧ (fd = getV2 (ls.take i.toNat) name) ∧ ∃ y11 : Nat → Value, vs = [.slice a (ls.length) cp, .string (name), undef, undef, (y11 4), .slice a_w (woN name ls).length cp_w, .string (getV1 ls name), .bool (getV2 ls name), .int .i64 (k), .bool (fd), .int .i64 (i), undef, undef, .slice a (ls.length) cp, .bool false, .bool false, .string (name), .int .i64 ((((name).data.toList.length : Nat) : Int)), .bool false, .bool false, .bool false, .bool true, .bool false, .bool false, undef, .slice a (ls.length) cp, .string (name), .slice a_w (woN name ls).length cp_w, .tuple #[.string (getV1 ls name), .bool (getV2 ls name)], .slice a (ls.length) cp, .string (name), .tuple #[.string (getV1 ls name), .bool (getV2 ls name)], .string (getV1 ls name), .bool (getV2 ls name), (y11 34), (y11 35), (y11 36), (y11 37), (y11 38), (y11 39), (y11 40), (y11 41), (y11 42), (y11 43), (y11 44), (y11 45), (y11 46), (y11 47), (y11 48), (y11 49), (y11 50), (y11 51), (y11 52), (y11 53), (y11 54), (y11 55), (y11 56), (y11 57), (y11 58), (y11 59), (y11 60), (y11 61), (y11 62), (y11 63), (y11 64), (y11 65), (y11 66), (y11 67), (y11 68), (y11 69), (y11 70), (y11 71), (y11 72), (y11 73), (y11 74), (y11 75), (y11 76), (y11 77), (y11 78), undef, undef, undef, undef, undef, undef, undef, undef, undef, undef, undef, undef, undef, undef, undef, undef, undef, undef, undef, undef, undef, undef, undef, undef, undef, undef, undef, undef, undef, undef, undef, undef, undef, undef, undef, undef, undef, undef, undef, undef]) (((ls.length : Nat) - (0 : Int) + 1).toNat) ⟨0, 0, false, rfl, rfl, hn, hf, (by omega), (by omega), (rfl), (by omega), (rfl), getV [undef, undef, undef, undef, .bool false, undef, undef, undef, undef, undef, undef, undef, undef, undef, undef, undef, undef, undef, undef, undef, undef, undef, undef, undef, undef, undef, undef, undef, undef, undef, undef, undef, undef, undef, undef, undef, undef, undef, undef, undef, undef, undef, undef, undef, undef, undef, undef, undef, undef, undef, undef, undef, undef, undef, undef, undef, undef, undef, undef, undef, undef, undef, undef, undef, undef, undef, undef, undef, undef, undef, undef, undef, undef, undef, undef, undef, undef, undef, undef], rfl⟩ ?_
      rintro d vs h7' n12 ⟨i, k, fd, rfl, rfl, hn, hf, hi0, hi1, hk, hki, hfd, y11, rfl⟩
      refine AWp.seq ?_
      refine AWp.seq ?_
      refine AWp.rowV (l := _) pok ?_
      refine sq.c (v := .int .i64 (i)) rfl rfl rfl rfl ?_
      refine sq.c (v := .slice a (ls.length) cp) rfl rfl rfl rfl ?_
      refine sq.c (v := .int .i64 (((ls.length : Nat) : Int))) rfl rfl (by kernel_rfl) rfl ?_
      refine sq.c (v := .bool (decide (i < (((ls.length : Nat) : Int))))) rfl rfl rfl rfl ?_
      refine sq.e ?_
      by_cases c8_3 : i < (((ls.length : Nat) : Int))
      · rw [decide_eq_true c8_3]
        refine AWp.condT rfl rfl ?_
        refine AWp.skip ?_
        refine AWp.seq ?_
        refine AWp.block ?_
        refine AWp.seq ?_
        refine AWp.seq ?_
        refine AWp.rowV (l := _) pok ?_
        refine sq.c (v := .slice a (ls.length) cp) rfl rfl rfl rfl ?_
        refine sq.c (v := .int .i64 (i)) rfl rfl rfl rfl ?_
        have i19 : (0 : Int) ≤ (i : Int) := by omega
        obtain ⟨x20, hx_x20⟩ : ∃ x, (ls)[((i : Int)).toNat]? = some x := ⟨_, List.getElem?_eq_getElem (by omega)⟩
        obtain ⟨b13, o14, cs_b13, ow_b13, ci_b13, ie18, hb15, hc16, hr17⟩ := IsRow.at (P := Tryz.prog) (t := 22) (e := 40) (k := .i64) (by kernel_rfl) (by kernel_rfl) (hl.keep hs) i19 hx_x20
        refine sq.c (v := .pointer (some ⟨b13, o14, none⟩)) rfl rfl ie18 rfl ?_
        refine sq.c (v := .pointer (some ⟨b13, o14, none⟩)) rfl rfl (by kernel_rfl) rfl ?_
        refine sq.c (v := .string (x20.1)) rfl rfl (ld1 (P := Tryz.prog) (t := 9) (p := o14 + 0) (v := .string (x20.1)) (by kernel_rfl) (by kernel_rfl) hb15 (hc16 0 _ rfl)) rfl ?_
        refine sq.c (v := .string (name)) rfl rfl rfl rfl ?_
        refine sq.c (v := .bool (decide (x20.1 = name))) rfl rfl (eqD _ _) rfl ?_
        refine sq.e ?_
        by_cases c10_6 : x20.1 = name
        · rw [decide_eq_true c10_6]
          refine AWp.condT rfl rfl ?_
          refine AWp.seq ?_
          refine AWp.seq ?_
          refine AWp.rowV (l := _) pok ?_
          refine sq.c (v := .bool (fd)) rfl rfl rfl rfl ?_
          rcases Bool.eq_false_or_eq_true (fd) with cfd | cfd
          · rw [cfd]
            refine sq.c (v := .bool false) rfl rfl rfl rfl ?_
            refine sq.c (v := .bool false) rfl rfl rfl rfl ?_
            refine sq.s (wantF (g := 2) (d := 49) rfl rfl rfl) rfl ?_
            refine sq.s (wantF (g := 2) (d := 49) rfl rfl rfl) rfl ?_
            refine sq.s (wantF (g := 2) (d := 49) rfl rfl rfl) rfl ?_
            refine sq.s (wantU (g := 5) (d := 52) rfl rfl rfl) rfl ?_
            refine sq.s (wantU (g := 5) (d := 52) rfl rfl rfl) rfl ?_
            refine sq.s (wantU (g := 5) (d := 52) rfl rfl rfl) rfl ?_
            refine sq.s (wantU (g := 5) (d := 52) rfl rfl rfl) rfl ?_
            refine sq.s (wantU (g := 5) (d := 52) rfl rfl rfl) rfl ?_
            refine sq.s (wantU (g := 5) (d := 52) rfl rfl rfl) rfl ?_
            refine sq.s (wantU (g := 5) (d := 52) rfl rfl rfl) rfl ?_
            refine sq.s (wantF (g := 2) (d := 49) rfl rfl rfl) rfl ?_
            refine sq.c (v := .bool false) rfl rfl rfl rfl ?_
            refine sq.e ?_
            refine AWp.condF rfl rfl ?_
            refine AWp.skip ?_
            refine AWp.seq ?_
            refine AWp.rowV (l := _) pok ?_
            refine sq.c (v := .bool true) rfl rfl rfl rfl ?_
            refine sq.e ?_
            refine AWp.exit ?_
            refine AWp.rowV (l := _) pok ?_
            refine sq.c (v := .int .i64 (i)) rfl rfl rfl rfl ?_
            refine sq.c (v := .int .i64 (i + 1)) rfl rfl (okI (wrap_i64 (by omega) (by omega))) rfl ?_
            refine sq.c (v := .int .i64 (i + 1)) rfl rfl rfl rfl ?_
            refine sq.e ?_
            have hst := wo_step (name := name) hx_x20
            have hg := get2_step (name := name) hx_x20
            rw [show i.toNat + 1 = (i + 1).toNat by omega] at hst hg
            rw [if_pos c10_6, List.append_nil] at hst
            rw [decide_eq_true c10_6, Bool.or_true] at hg
            refine ⟨_, _, rfl, by omega, i + 1, k, true, rfl, rfl, hn, hf, (by omega), (by omega), (by rw [hst, hk]), (by omega), (hg.symm), getV [undef, undef, undef, undef, (y11 4), undef, undef, undef, undef, undef, undef, undef, undef, undef, undef, undef, undef, undef, undef, undef, undef, undef, undef, undef, undef, undef, undef, undef, undef, undef, undef, undef, undef, undef, .int .i64 (i), .slice a (ls.length) cp, .int .i64 (((ls.length : Nat) : Int)), .bool true, .int .i64 (i), .int .i64 (i + 1), .slice a (ls.length) cp, .int .i64 (i), .pointer (some ⟨b13, o14, none⟩), .pointer (some ⟨b13, o14, none⟩), .string (x20.1), .string (name), .bool true, .bool true, .bool false, .bool false, undef, undef, undef, undef, undef, undef, undef, undef, undef, undef, undef, .bool false, (y11 62), (y11 63), (y11 64), (y11 65), (y11 66), (y11 67), (y11 68), (y11 69), (y11 70), (y11 71), (y11 72), (y11 73), (y11 74), (y11 75), (y11 76), (y11 77), (y11 78)], rfl⟩
          · rw [cfd]
            refine sq.c (v := .bool true) rfl rfl rfl rfl ?_
            refine sq.c (v := .bool true) rfl rfl rfl rfl ?_
            refine sq.c (v := .bool (getV2 ls name)) (wantT (g := 2) (d := 49) rfl rfl rfl) rfl rfl rfl ?_
            rcases Bool.eq_false_or_eq_true (getV2 ls name) with c_gl | c_gl
            · rw [c_gl]
              refine sq.c (v := .bool false) (wantT (g := 2) (d := 49) rfl rfl rfl) rfl rfl rfl ?_
              refine sq.c (v := .bool false) (wantT (g := 2) (d := 49) rfl rfl rfl) rfl rfl rfl ?_
              refine sq.c (v := .string (getV1 ls name)) (wantT (g := 5) (d := 52) rfl rfl rfl) rfl rfl rfl ?_
              refine sq.c (v := .slice a (ls.length) cp) (wantT (g := 5) (d := 52) rfl rfl rfl) rfl rfl rfl ?_
              refine sq.c (v := .int .i64 (i)) (wantT (g := 5) (d := 52) rfl rfl rfl) rfl rfl rfl ?_
              have i27 : (0 : Int) ≤ (i : Int) := by omega
              obtain ⟨b21, o22, cs_b21, ow_b21, ci_b21, ie26, hb23, hc24, hr25⟩ := IsRow.at (P := Tryz.prog) (t := 22) (e := 40) (k := .i64) (by kernel_rfl) (by kernel_rfl) (hl.keep hs) i27 hx_x20
              refine sq.c (v := .pointer (some ⟨b21, o22, none⟩)) (wantT (g := 5) (d := 52) rfl rfl rfl) rfl ie26 rfl ?_
              refine sq.c (v := .pointer (some ⟨b21, o22 + 1, none⟩)) (wantT (g := 5) (d := 52) rfl rfl rfl) rfl (by kernel_rfl) rfl ?_
              refine sq.c (v := .string (x20.2)) (wantT (g := 5) (d := 52) rfl rfl rfl) rfl (ld1 (P := Tryz.prog) (t := 9) (p := o22 + 1) (v := .string (x20.2)) (by kernel_rfl) (by kernel_rfl) hb23 (hc24 1 _ rfl)) rfl ?_
              refine sq.c (v := .bool (!decide (getV1 ls name = x20.2))) (wantT (g := 5) (d := 52) rfl rfl rfl) rfl (neD _ _) rfl ?_
              refine sq.c (v := .bool (!decide (getV1 ls name = x20.2))) (wantT (g := 2) (d := 49) rfl rfl rfl) rfl rfl rfl ?_
              refine sq.c (v := .bool (!decide (getV1 ls name = x20.2))) rfl rfl rfl rfl ?_
              refine sq.e ?_
              by_cases c11_12 : getV1 ls name = x20.2
              · rw [decide_eq_true c11_12]
                refine AWp.condF rfl rfl ?_
                refine AWp.skip ?_
                refine AWp.seq ?_
                refine AWp.rowV (l := _) pok ?_
                refine sq.c (v := .bool true) rfl rfl rfl rfl ?_
                refine sq.e ?_
                refine AWp.exit ?_
                refine AWp.rowV (l := _) pok ?_
                refine sq.c (v := .int .i64 (i)) rfl rfl rfl rfl ?_
                refine sq.c (v := .int .i64 (i + 1)) rfl rfl (okI (wrap_i64 (by omega) (by omega))) rfl ?_
                refine sq.c (v := .int .i64 (i + 1)) rfl rfl rfl rfl ?_
                refine sq.e ?_
                have hst := wo_step (name := name) hx_x20
                have hg := get2_step (name := name) hx_x20
                rw [show i.toNat + 1 = (i + 1).toNat by omega] at hst hg
                rw [if_pos c10_6, List.append_nil] at hst
                rw [decide_eq_true c10_6, Bool.or_true] at hg
                refine ⟨_, _, rfl, by omega, i + 1, k, true, rfl, rfl, hn, hf, (by omega), (by omega), (by rw [hst, hk]), (by omega), (hg.symm), getV [undef, undef, undef, undef, (y11 4), undef, undef, undef, undef, undef, undef, undef, undef, undef, undef, undef, undef, undef, undef, undef, undef, undef, undef, undef, undef, undef, undef, undef, undef, undef, undef, undef, undef, undef, .int .i64 (i), .slice a (ls.length) cp, .int .i64 (((ls.length : Nat) : Int)), .bool true, .int .i64 (i), .int .i64 (i + 1), .slice a (ls.length) cp, .int .i64 (i), .pointer (some ⟨b13, o14, none⟩), .pointer (some ⟨b13, o14, none⟩), .string (x20.1), .string (name), .bool true, .bool false, .bool true, .bool true, .bool true, .bool false, .bool false, .string (getV1 ls name), .slice a (ls.length) cp, .int .i64 (i), .pointer (some ⟨b21, o22, none⟩), .pointer (some ⟨b21, o22 + 1, none⟩), .string (x20.2), .bool false, .bool false, .bool false, (y11 62), (y11 63), (y11 64), (y11 65), (y11 66), (y11 67), (y11 68), (y11 69), (y11 70), (y11 71), (y11 72), (y11 73), (y11 74), (y11 75), (y11 76), (y11 77), (y11 78)], rfl⟩
              · exfalso
                exact c11_12 (get1_first hx_x20 c10_6 (by rw [← hfd]; exact cfd))
            · exfalso
              rw [get2_mem hx_x20 c10_6] at c_gl; cases c_gl
        · rw [decide_eq_false c10_6]
          refine AWp.condF rfl rfl ?_
          refine AWp.skip ?_
          refine AWp.seq ?_
          refine AWp.seq ?_
          refine AWp.anyV pok [] [0, 1, 2, 3, 4, 5, 6, 7, 8, 9, 10, 11, 12, 13, 14] (by kernel_rfl) (by kernel_rfl) rfl (fun x fr fr' h n hd _ q => ⟨hd ▸ q.1, q.2⟩) ?_
          refine dq.c (v := .int .i64 (k)) rfl (by kernel_rfl) rfl rfl rfl rfl ?_
          refine dq.c (v := .slice a_w (woN name ls).length cp_w) rfl (by kernel_rfl) rfl rfl rfl rfl ?_
          refine dq.c (v := .int .i64 ((((woN name ls).length : Nat) : Int))) rfl (by kernel_rfl) rfl rfl (by kernel_rfl) rfl ?_
          refine dq.c (v := .bool (decide (((((woN name ls).length : Nat) : Int)) ≤ k))) rfl (by kernel_rfl) rfl rfl rfl rfl ?_
          refine dq.c (v := .bool (decide (((((woN name ls).length : Nat) : Int)) ≤ k))) rfl (by kernel_rfl) rfl rfl rfl rfl ?_
          by_cases c14_3 : ((((woN name ls).length : Nat) : Int)) ≤ k
          · exfalso
            have hq := wo_at hx_x20 c10_6
            have := (List.getElem?_eq_some_iff.1 hq).1
            omega
          · rw [decide_eq_false c14_3]
            refine dq.c (v := .slice a_w (woN name ls).length cp_w) rfl (by kernel_rfl) (wantT (g := 4) (d := 66) rfl rfl rfl) rfl rfl rfl ?_
            refine dq.c (v := .int .i64 (k)) rfl (by kernel_rfl) (wantT (g := 4) (d := 66) rfl rfl rfl) rfl rfl rfl ?_
            have i34 : (0 : Int) ≤ (k : Int) := by omega
            obtain ⟨x35, hx_x35⟩ : ∃ x, ((woN name ls))[((k : Int)).toNat]? = some x := ⟨_, List.getElem?_eq_getElem (by omega)⟩
            obtain ⟨b28, o29, cs_b28, ow_b28, ci_b28, ie33, hb30, hc31, hr32⟩ := IsRow.at (P := Tryz.prog) (t := 22) (e := 40) (k := .i64) (by kernel_rfl) (by kernel_rfl) R_w i34 hx_x35
            refine dq.c (v := .pointer (some ⟨b28, o29, none⟩)) rfl (by kernel_rfl) (wantT (g := 4) (d := 66) rfl rfl rfl) rfl ie33 rfl ?_
            refine dq.g (v := .agg #[.string (x35.1), .string (x35.2)]) rfl (by kernel_rfl) (wantT (g := 4) (d := 66) rfl rfl rfl) rfl (ldR (P := Tryz.prog) (t := 40) (k := 2) (xs := [.string (x35.1), .string (x35.2)]) (by kernel_rfl) (by kernel_rfl) hr32) rfl ?_
            refine dq.c (v := .slice a (ls.length) cp) rfl (by kernel_rfl) (wantT (g := 4) (d := 66) rfl rfl rfl) rfl rfl rfl ?_
            refine dq.c (v := .int .i64 (i)) rfl (by kernel_rfl) (wantT (g := 4) (d := 66) rfl rfl rfl) rfl rfl rfl ?_
            have i42 : (0 : Int) ≤ (i : Int) := by omega
            obtain ⟨b36, o37, cs_b36, ow_b36, ci_b36, ie41, hb38, hc39, hr40⟩ := IsRow.at (P := Tryz.prog) (t := 22) (e := 40) (k := .i64) (by kernel_rfl) (by kernel_rfl) (hl.keep hs) i42 hx_x20
            refine dq.c (v := .pointer (some ⟨b36, o37, none⟩)) rfl (by kernel_rfl) (wantT (g := 4) (d := 66) rfl rfl rfl) rfl ie41 rfl ?_
            refine dq.g (v := .agg #[.string (x20.1), .string (x20.2)]) rfl (by kernel_rfl) (wantT (g := 4) (d := 66) rfl rfl rfl) rfl (ldR (P := Tryz.prog) (t := 40) (k := 2) (xs := [.string (x20.1), .string (x20.2)]) (by kernel_rfl) (by kernel_rfl) hr40) rfl ?_
            refine dq.c (v := .bool (!decide (x35 = x20))) rfl (by kernel_rfl) (wantT (g := 4) (d := 66) rfl rfl rfl) rfl (labNe _ _) rfl ?_
            refine dq.c (v := .bool (!decide (x35 = x20))) rfl (by kernel_rfl) rfl rfl rfl rfl ?_
            refine dq.e ?_
            by_cases c14_13 : x35 = x20
            · rw [decide_eq_true c14_13]
              refine AWp.condF rfl rfl ?_
              refine AWp.skip ?_
              refine AWp.rowV (l := _) pok ?_
              refine sq.c (v := .int .i64 (k)) rfl rfl rfl rfl ?_
              refine sq.c (v := .int .i64 (k + 1)) rfl rfl (okI (wrap_i64 (by omega) (by omega))) rfl ?_
              refine sq.c (v := .int .i64 (k + 1)) rfl rfl rfl rfl ?_
              refine sq.e ?_
              refine AWp.rowV (l := _) pok ?_
              refine sq.c (v := .int .i64 (i)) rfl rfl rfl rfl ?_
              refine sq.c (v := .int .i64 (i + 1)) rfl rfl (okI (wrap_i64 (by omega) (by omega))) rfl ?_
              refine sq.c (v := .int .i64 (i + 1)) rfl rfl rfl rfl ?_
              refine sq.e ?_
              have hst := wo_step (name := name) hx_x20
              have hg := get2_step (name := name) hx_x20
              rw [show i.toNat + 1 = (i + 1).toNat by omega] at hst hg
              rw [if_neg c10_6] at hst
              rw [decide_eq_false c10_6, Bool.or_false] at hg
              refine ⟨_, _, rfl, by omega, i + 1, k + 1, fd, rfl, rfl, hn, hf, (by omega), (by omega), (by rw [hst, List.length_append, hk]; rfl), (by omega), (by rw [hg, hfd]), getV [undef, undef, undef, undef, (y11 4), undef, undef, undef, undef, undef, undef, undef, undef, undef, undef, undef, undef, undef, undef, undef, undef, undef, undef, undef, undef, undef, undef, undef, undef, undef, undef, undef, undef, undef, .int .i64 (i), .slice a (ls.length) cp, .int .i64 (((ls.length : Nat) : Int)), .bool true, .int .i64 (i), .int .i64 (i + 1), .slice a (ls.length) cp, .int .i64 (i), .pointer (some ⟨b13, o14, none⟩), .pointer (some ⟨b13, o14, none⟩), .string (x20.1), .string (name), .bool false, (y11 47), (y11 48), (y11 49), (y11 50), (y11 51), (y11 52), (y11 53), (y11 54), (y11 55), (y11 56), (y11 57), (y11 58), (y11 59), (y11 60), (y11 61), .int .i64 (k), .slice a_w (woN name ls).length cp_w, .int .i64 ((((woN name ls).length : Nat) : Int)), .bool false, .bool false, .slice a_w (woN name ls).length cp_w, .int .i64 (k), .pointer (some ⟨b28, o29, none⟩), .agg #[.string (x35.1), .string (x35.2)], .slice a (ls.length) cp, .int .i64 (i), .pointer (some ⟨b36, o37, none⟩), .agg #[.string (x20.1), .string (x20.2)], .bool false, .bool false, .int .i64 (k), .int .i64 (k + 1)], rfl⟩
            · exfalso
              have hq := wo_at hx_x20 c10_6
              rw [show (woN name (ls.take i.toNat)).length = k.toNat by omega, hx_x35] at hq
              exact c14_13 (Option.some.inj hq)
      · rw [decide_eq_false c8_3]
        refine AWp.condF rfl rfl ?_
        refine AWp.exit ?_
        refine AWp.seq ?_
        refine AWp.rowV (l := _) pok ?_
        refine sq.c (v := .slice a_w (woN name ls).length cp_w) rfl rfl rfl rfl ?_
        refine sq.c (v := .string (name)) rfl rfl rfl rfl ?_
        refine sq.t (v := .tuple #[.string (getV1 (woN name ls) name), .bool (getV2 (woN name ls) name)]) rfl (CallsF.fn rfl (by kernel_rfl) rfl rfl) (fun hf => f29_spec (woN name ls) name R_w (by have := (hb_l c_l).1; omega)) hf rfl ?_
        intro n43 hn2 hf
        have hn := Nat.le_trans hn hn2
        refine sq.c (v := .tuple #[.string (getV1 (woN name ls) name), .bool (getV2 (woN name ls) name)]) rfl rfl rfl rfl ?_
        refine sq.c (v := .string (getV1 (woN name ls) name)) rfl rfl rfl rfl ?_
        refine sq.c (v := .bool (getV2 (woN name ls) name)) rfl rfl rfl rfl ?_
        refine sq.c (v := .string (getV1 (woN name ls) name)) rfl rfl rfl rfl ?_
        refine sq.c (v := .bool (getV2 (woN name ls) name)) rfl rfl rfl rfl ?_
        refine sq.e ?_
        refine AWp.seq ?_
        refine AWp.rowV (l := _) pok ?_
        refine sq.c (v := .int .i64 (k)) rfl rfl rfl rfl ?_
        refine sq.c (v := .slice a_w (woN name ls).length cp_w) rfl rfl rfl rfl ?_
        refine sq.c (v := .int .i64 ((((woN name ls).length : Nat) : Int))) rfl rfl (by kernel_rfl) rfl ?_
        refine sq.c (v := .bool (decide (k = ((((woN name ls).length : Nat) : Int))))) rfl rfl rfl rfl ?_
        refine sq.c (v := .bool (decide (k = ((((woN name ls).length : Nat) : Int))))) rfl rfl rfl rfl ?_
        by_cases c18_3 : k = ((((woN name ls).length : Nat) : Int))
        · rw [decide_eq_true c18_3]
          refine sq.c (v := .bool (getV2 ls name)) (wantT (g := 4) (d := 89) rfl rfl rfl) rfl rfl rfl ?_
          refine sq.c (v := .bool (fd)) (wantT (g := 4) (d := 89) rfl rfl rfl) rfl rfl rfl ?_
          refine sq.c (v := .bool ((getV2 ls name) == (fd))) (wantT (g := 4) (d := 89) rfl rfl rfl) rfl (boolEql _ _) rfl ?_
          refine sq.c (v := .bool ((getV2 ls name) == (fd))) rfl rfl rfl rfl ?_
          refine sq.c (v := .bool ((getV2 ls name) == (fd))) rfl rfl rfl rfl ?_
          rcases Bool.eq_false_or_eq_true ((getV2 ls name) == (fd)) with c18_7 | c18_7
          · rw [c18_7]
            refine sq.c (v := .bool (getV2 (woN name ls) name)) (wantT (g := 9) (d := 94) rfl rfl rfl) rfl rfl rfl ?_
            rcases Bool.eq_false_or_eq_true (getV2 (woN name ls) name) with c_gw | c_gw
            · exfalso
              rw [wo_get2] at c_gw; cases c_gw
            · rw [c_gw]
              refine sq.c (v := .bool true) (wantT (g := 9) (d := 94) rfl rfl rfl) rfl rfl rfl ?_
              refine sq.c (v := .bool true) rfl rfl rfl rfl ?_
              refine sq.c (v := .bool true) rfl rfl rfl rfl ?_
              refine sq.c (v := .slice a (ls.length) cp) (wantT (g := 13) (d := 98) rfl rfl rfl) rfl rfl rfl ?_
              refine sq.t (v := .bool (mayB ls)) (wantT (g := 13) (d := 98) rfl rfl rfl) (CallsF.fn rfl (by kernel_rfl) rfl rfl) (fun hf => f24_spec ls (hl.keep hs) (by have := (hb_l c_l).1; omega) (fun x hx => ⟨by have := (hb_l c_l).2 x hx; omega, by have := (hb_l c_l).2 x hx; omega⟩) (hld.keep hs)) hf rfl ?_
              intro n44 hn2 hf
              have hn := Nat.le_trans hn hn2
              rcases Bool.eq_false_or_eq_true (mayB ls) with c_ml | c_ml
              · rw [c_ml]
                refine sq.c (v := .bool false) (wantT (g := 13) (d := 98) rfl rfl rfl) rfl rfl rfl ?_
                refine sq.c (v := .bool false) (wantT (g := 13) (d := 98) rfl rfl rfl) rfl rfl rfl ?_
                refine sq.c (v := .slice a_w (woN name ls).length cp_w) (wantT (g := 17) (d := 102) rfl rfl rfl) rfl rfl rfl ?_
                refine sq.c (v := .int .i64 ((((woN name ls).length : Nat) : Int))) (wantT (g := 17) (d := 102) rfl rfl rfl) rfl (by kernel_rfl) rfl ?_
                refine sq.c (v := .bool (decide (((((woN name ls).length : Nat) : Int)) = (0 : Int)))) (wantT (g := 17) (d := 102) rfl rfl rfl) rfl rfl rfl ?_
                refine sq.c (v := .bool (decide (((((woN name ls).length : Nat) : Int)) = (0 : Int)))) (wantT (g := 13) (d := 98) rfl rfl rfl) rfl rfl rfl ?_
                refine sq.c (v := .bool (decide (((((woN name ls).length : Nat) : Int)) = (0 : Int)))) (wantT (g := 13) (d := 98) rfl rfl rfl) rfl rfl rfl ?_
                by_cases c18_20 : ((((woN name ls).length : Nat) : Int)) = (0 : Int)
                · rw [decide_eq_true c18_20]
                  refine sq.s (wantF (g := 22) (d := 107) rfl rfl rfl) rfl ?_
                  refine sq.s (wantF (g := 22) (d := 107) rfl rfl rfl) rfl ?_
                  refine sq.c (v := .bool true) (wantT (g := 13) (d := 98) rfl rfl rfl) rfl rfl rfl ?_
                  refine sq.c (v := .bool true) rfl rfl rfl rfl ?_
                  refine sq.c (v := .bool true) rfl rfl rfl rfl ?_
                  refine sq.c (v := .slice a_w (woN name ls).length cp_w) (wantT (g := 27) (d := 112) rfl rfl rfl) rfl rfl rfl ?_
                  refine sq.c (v := .string (name)) (wantT (g := 27) (d := 112) rfl rfl rfl) rfl rfl rfl ?_
                  refine sq.k (wantT (g := 27) (d := 112) rfl rfl rfl) (CallsF.fn rfl (by kernel_rfl) rfl rfl) (f31_spec (woN name ls) name R_w (by have := (hb_l c_l).1; omega)) ?_
                  rintro v_x h45 n46 R_x s47 hn2 hf
                  obtain ⟨a_x, cp_x, rfl⟩ := R_x.slice
                  refine sq.w ?_
                  have R_w := R_w.keep s47
                  have hs := hs.trans s47
                  have hn := Nat.le_trans hn hn2
                  refine sq.c (v := .slice a_w (woN name ls).length cp_w) (wantT (g := 27) (d := 112) rfl rfl rfl) rfl rfl rfl ?_
                  refine sq.t (v := .bool (decide ((woN name (woN name ls)) = (woN name ls)))) (wantT (g := 27) (d := 112) rfl rfl rfl) (CallsF.fn rfl (by kernel_rfl) rfl rfl) (fun hf => f26_spec (woN name (woN name ls)) (woN name ls) R_x R_w (by have := (hb_l c_l).1; have : (woN name (woN name ls)).length ≤ (woN name ls).length := List.length_filter_le _ _; omega)) hf rfl ?_
                  intro n48 hn2 hf
                  have hn := Nat.le_trans hn hn2
                  refine sq.c (v := .bool (decide ((woN name (woN name ls)) = (woN name ls)))) rfl rfl rfl rfl ?_
                  refine sq.c (v := .bool (decide ((woN name (woN name ls)) = (woN name ls)))) rfl rfl rfl rfl ?_
                  refine sq.e ?_
                  refine AWp.ret ?_
                  -- end 3: ¬c_l ¬c1_5 L8 ¬c8_3 c18_3 c18_7 ¬c_gw c_ml c18_20
                  refine ⟨rfl, [.bool (decide ((woN name (woN name ls)) = (woN name ls)))], rfl, .bool (decide ((woN name (woN name ls)) = (woN name ls))), rfl, hs, hn, ?_⟩
                  exact congrArg Value.bool (decide_eq_true (wo_idem ls name))
                · rw [decide_eq_false c18_20]
                  refine sq.c (v := .slice a_w (woN name ls).length cp_w) (wantT (g := 22) (d := 107) rfl rfl rfl) rfl rfl rfl ?_
                  refine sq.t (v := .bool (mayB (woN name ls))) (wantT (g := 22) (d := 107) rfl rfl rfl) (CallsF.fn rfl (by kernel_rfl) rfl rfl) (fun hf => f24_spec (woN name ls) R_w (by have := (hb_l c_l).1; omega) (fun x hx => ⟨by have := (hb_l c_l).2 x (List.mem_filter.1 hx).1; omega, by have := (hb_l c_l).2 x (List.mem_filter.1 hx).1; omega⟩) (hld.keep hs)) hf rfl ?_
                  intro n49 hn2 hf
                  have hn := Nat.le_trans hn hn2
                  refine sq.c (v := .bool (mayB (woN name ls))) (wantT (g := 13) (d := 98) rfl rfl rfl) rfl rfl rfl ?_
                  refine sq.c (v := .bool (mayB (woN name ls))) rfl rfl rfl rfl ?_
                  refine sq.c (v := .bool (mayB (woN name ls))) rfl rfl rfl rfl ?_
                  rcases Bool.eq_false_or_eq_true (mayB (woN name ls)) with c_mw | c_mw
                  · rw [c_mw]
                    refine sq.c (v := .slice a_w (woN name ls).length cp_w) (wantT (g := 27) (d := 112) rfl rfl rfl) rfl rfl rfl ?_
                    refine sq.c (v := .string (name)) (wantT (g := 27) (d := 112) rfl rfl rfl) rfl rfl rfl ?_
                    refine sq.k (wantT (g := 27) (d := 112) rfl rfl rfl) (CallsF.fn rfl (by kernel_rfl) rfl rfl) (f31_spec (woN name ls) name R_w (by have := (hb_l c_l).1; omega)) ?_
                    rintro v_x h50 n51 R_x s52 hn2 hf
                    obtain ⟨a_x, cp_x, rfl⟩ := R_x.slice
                    refine sq.w ?_
                    have R_w := R_w.keep s52
                    have hs := hs.trans s52
                    have hn := Nat.le_trans hn hn2
                    refine sq.c (v := .slice a_w (woN name ls).length cp_w) (wantT (g := 27) (d := 112) rfl rfl rfl) rfl rfl rfl ?_
                    refine sq.t (v := .bool (decide ((woN name (woN name ls)) = (woN name ls)))) (wantT (g := 27) (d := 112) rfl rfl rfl) (CallsF.fn rfl (by kernel_rfl) rfl rfl) (fun hf => f26_spec (woN name (woN name ls)) (woN name ls) R_x R_w (by have := (hb_l c_l).1; have : (woN name (woN name ls)).length ≤ (woN name ls).length := List.length_filter_le _ _; omega)) hf rfl ?_
                    intro n53 hn2 hf
                    have hn := Nat.le_trans hn hn2
                    refine sq.c (v := .bool (decide ((woN name (woN name ls)) = (woN name ls)))) rfl rfl rfl rfl ?_
                    refine sq.c (v := .bool (decide ((woN name (woN name ls)) = (woN name ls)))) rfl rfl rfl rfl ?_
                    refine sq.e ?_
                    refine AWp.ret ?_
                    -- end 4: ¬c_l ¬c1_5 L8 ¬c8_3 c18_3 c18_7 ¬c_gw c_ml ¬c18_20 c_mw
                    refine ⟨rfl, [.bool (decide ((woN name (woN name ls)) = (woN name ls)))], rfl, .bool (decide ((woN name (woN name ls)) = (woN name ls))), rfl, hs, hn, ?_⟩
                    exact congrArg Value.bool (decide_eq_true (wo_idem ls name))
                  · exfalso
                    rw [may_wo c_ml (by omega)] at c_mw; cases c_mw
              · rw [c_ml]
                refine sq.c (v := .bool true) rfl rfl rfl rfl ?_
                refine sq.c (v := .bool true) (wantT (g := 13) (d := 98) rfl rfl rfl) rfl rfl rfl ?_
                refine sq.s (wantF (g := 17) (d := 102) rfl rfl rfl) rfl ?_
                refine sq.s (wantF (g := 17) (d := 102) rfl rfl rfl) rfl ?_
                refine sq.s (wantF (g := 17) (d := 102) rfl rfl rfl) rfl ?_
                refine sq.c (v := .bool true) (wantT (g := 13) (d := 98) rfl rfl rfl) rfl rfl rfl ?_
                refine sq.c (v := .bool true) (wantT (g := 13) (d := 98) rfl rfl rfl) rfl rfl rfl ?_
                refine sq.s (wantF (g := 22) (d := 107) rfl rfl rfl) rfl ?_
                refine sq.s (wantF (g := 22) (d := 107) rfl rfl rfl) rfl ?_
                refine sq.c (v := .bool true) (wantT (g := 13) (d := 98) rfl rfl rfl) rfl rfl rfl ?_
                refine sq.c (v := .bool true) rfl rfl rfl rfl ?_
                refine sq.c (v := .bool true) rfl rfl rfl rfl ?_
                refine sq.c (v := .slice a_w (woN name ls).length cp_w) (wantT (g := 27) (d := 112) rfl rfl rfl) rfl rfl rfl ?_
                refine sq.c (v := .string (name)) (wantT (g := 27) (d := 112) rfl rfl rfl) rfl rfl rfl ?_
                refine sq.k (wantT (g := 27) (d := 112) rfl rfl rfl) (CallsF.fn rfl (by kernel_rfl) rfl rfl) (f31_spec (woN name ls) name R_w (by have := (hb_l c_l).1; omega)) ?_
                rintro v_x h54 n55 R_x s56 hn2 hf
                obtain ⟨a_x, cp_x, rfl⟩ := R_x.slice
                refine sq.w ?_
                have R_w := R_w.keep s56
                have hs := hs.trans s56
                have hn := Nat.le_trans hn hn2
                refine sq.c (v := .slice a_w (woN name ls).length cp_w) (wantT (g := 27) (d := 112) rfl rfl rfl) rfl rfl rfl ?_
                refine sq.t (v := .bool (decide ((woN name (woN name ls)) = (woN name ls)))) (wantT (g := 27) (d := 112) rfl rfl rfl) (CallsF.fn rfl (by kernel_rfl) rfl rfl) (fun hf => f26_spec (woN name (woN name ls)) (woN name ls) R_x R_w (by have := (hb_l c_l).1; have : (woN name (woN name ls)).length ≤ (woN name ls).length := List.length_filter_le _ _; omega)) hf rfl ?_
                intro n57 hn2 hf
                have hn := Nat.le_trans hn hn2
                refine sq.c (v := .bool (decide ((woN name (woN name ls)) = (woN name ls)))) rfl rfl rfl rfl ?_
                refine sq.c (v := .bool (decide ((woN name (woN name ls)) = (woN name ls)))) rfl rfl rfl rfl ?_
                refine sq.e ?_
                refine AWp.ret ?_
                -- end 5: ¬c_l ¬c1_5 L8 ¬c8_3 c18_3 c18_7 ¬c_gw ¬c_ml
                refine ⟨rfl, [.bool (decide ((woN name (woN name ls)) = (woN name ls)))], rfl, .bool (decide ((woN name (woN name ls)) = (woN name ls))), rfl, hs, hn, ?_⟩
                exact congrArg Value.bool (decide_eq_true (wo_idem ls name))
          · exfalso
            rw [show i.toNat = ls.length by omega, List.take_length] at hfd
            rw [hfd] at c18_7
            simp at c18_7
        · exfalso
          rw [show i.toNat = ls.length by omega, List.take_length] at hk
          omega

end Go.Proofs.YtkpjfibpaojelaaGreatDoor
