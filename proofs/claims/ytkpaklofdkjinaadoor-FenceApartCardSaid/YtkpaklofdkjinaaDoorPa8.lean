/- texts of the claim, part 8: FenT12 FenOpn. -/
import Derived.Test.YtkpaklofdkjinaaDoorPa7
import Derived.SevenTiedAt
import Derived.ChangeSame
set_option linter.unusedVariables false
set_option linter.unusedSimpArgs false
set_option linter.unusedSectionVars false
namespace Go.Proofs.YtkpaklofdkjinaaDoor
open Go Go.Abs Go.RowKit Go.Shelf
set_option maxRecDepth 100000
set_option maxHeartbeats 8000000
theorem apart_spec {h : Heap} {n : Nat} {a : Option Addr} {cp : Nat} (rs : List RBat) (bs : List Bat) (hr : FRow encBat h (.slice a rs.length cp) rs) (hd : FBats h rs bs) (hld : Laid0 h) (hlen : rs.length < 9223372036854775808) (ten : ByteArray) :
    Tells Tryd.prog 3 [.slice a (rs.length) cp, .string (ten)] h n (.bool true) := by
 refine Makes.tells (Makes.free fun hf => ?_)
 have hs : SubBut h h ([]) := .refl _ _
 have hn : n ≤ n := Nat.le_refl _
 have hf0 := hf
 refine Makes.of_bodyV (args := [.slice a (rs.length) cp, .string (ten)]) (vs := [.slice a (rs.length) cp, .string (ten), undef, undef, undef, undef, undef, undef, undef, undef, undef, undef, undef, undef, undef, undef, undef, undef, undef, undef, undef, undef, undef, undef, undef, undef, undef, undef, undef, undef, undef, undef, undef, undef, undef, undef, undef, undef, undef, undef, undef, undef, undef, undef, undef, undef, undef, undef, undef, undef, undef, undef, undef, undef, undef, undef, undef, undef, undef, undef, undef, undef, undef, undef, undef, undef, undef, undef, undef, undef, undef, undef, undef, undef, undef, undef, undef, undef, undef, undef, undef, undef, undef, undef, undef, undef, undef, undef, undef, undef, undef, undef, undef, undef, undef, undef, undef, undef, undef, undef, undef, undef, undef, undef, undef, undef, undef, undef, undef, undef, undef, undef, undef, undef, undef, undef, undef, undef, undef, undef, undef, undef, undef, undef, undef, undef, undef, undef, undef, undef, undef, undef, undef, undef, undef, undef, undef, undef, undef, undef, undef, undef, undef, undef, undef, undef, undef, undef, undef, undef, undef, undef, undef, undef, undef, undef, undef, undef, undef, undef, undef, undef, undef, undef, undef, undef, undef, undef, undef, undef, undef, undef, undef, undef, undef, undef, undef, undef, undef, undef, undef, undef, undef, undef]) Tryd.func3 rfl rfl ?_
 refine AWp.seq (AWp.rowV (l := _) pok ?_)
 refine sq.c (v := .bool false) rfl rfl rfl rfl ?_
 refine sq.e (AWp.seq (AWp.seq (AWp.rowV (l := _) pok ?_)))
 refine sq.c (v := .slice a (rs.length) cp) rfl rfl rfl rfl ?_
 refine sq.k rfl (CallsF.fn rfl (by kernel_rfl) rfl rfl) (long_spec _ _ (hr.keep (.of0 hs)).is (hd.keep (.of0 hs)).is hlen) ?_
 rintro _ h1 n2 ⟨z_lo, rfl, hz_lo⟩ s3 hn2 hf
 refine sq.w ?_
 have hs := hs.trans s3
 have hn := Nat.le_trans hn hn2
 refine sq.c (v := .bool (z_lo)) rfl rfl rfl rfl ?_
 rcases Bool.eq_false_or_eq_true (z_lo) with c_lo | c_lo
 ·rw [c_lo]
  refine sq.s (wantF (g := 2) (d := 20) rfl rfl rfl) rfl ?_
  refine sq.s (wantF (g := 2) (d := 20) rfl rfl rfl) rfl ?_
  refine sq.s (wantF (g := 2) (d := 20) rfl rfl rfl) rfl ?_
  refine sq.c (v := .bool true) rfl rfl rfl rfl ?_
  refine sq.c (v := .bool true) rfl rfl rfl rfl ?_
  refine sq.s (wantF (g := 7) (d := 25) rfl rfl rfl) rfl ?_
  refine sq.s (wantF (g := 7) (d := 25) rfl rfl rfl) rfl ?_
  refine sq.c (v := .bool true) rfl rfl rfl rfl ?_
  refine sq.e ?_
  refine AWp.condT rfl rfl ?_
  refine AWp.seq (AWp.rowV (l := _) pok ?_)
  refine sq.t (v := .bool true) rfl (CallsF.fn rfl (by kernel_rfl) rfl rfl) (fun hf => awake_spec (hld.keep hs)) hf rfl ?_
  intro n4 hn2 hf
  have hn := Nat.le_trans hn hn2
  refine sq.c (v := .bool true) rfl rfl rfl rfl ?_
  refine sq.e ?_
  refine AWp.ret ?_
  refine ⟨rfl, [.bool true], rfl, .bool true, rfl, hs, hn, ?_⟩
  rfl
 ·rw [c_lo]
  refine sq.c (v := .string (ten)) (wantT (g := 2) (d := 20) rfl rfl rfl) rfl rfl rfl ?_
  refine sq.c (v := .int .i64 ((((ten).data.toList.length : Nat) : Int))) (wantT (g := 2) (d := 20) rfl rfl rfl) rfl (by kernel_rfl) rfl ?_
  refine sq.c (v := .bool (decide ((300 : Int) < ((((ten).data.toList.length : Nat) : Int))))) (wantT (g := 2) (d := 20) rfl rfl rfl) rfl rfl rfl ?_
  refine sq.c (v := .bool (decide ((300 : Int) < ((((ten).data.toList.length : Nat) : Int))))) rfl rfl rfl rfl ?_
  refine sq.c (v := .bool (decide ((300 : Int) < ((((ten).data.toList.length : Nat) : Int))))) rfl rfl rfl rfl ?_
  by_cases c1_5 : (300 : Int) < ((((ten).data.toList.length : Nat) : Int))
  ·rw [decide_eq_true c1_5]
   refine sq.s (wantF (g := 7) (d := 25) rfl rfl rfl) rfl ?_
   refine sq.s (wantF (g := 7) (d := 25) rfl rfl rfl) rfl ?_
   refine sq.c (v := .bool true) rfl rfl rfl rfl ?_
   refine sq.e ?_
   refine AWp.condT rfl rfl ?_
   refine AWp.seq (AWp.rowV (l := _) pok ?_)
   refine sq.t (v := .bool true) rfl (CallsF.fn rfl (by kernel_rfl) rfl rfl) (fun hf => awake_spec (hld.keep hs)) hf rfl ?_
   intro n5 hn2 hf
   have hn := Nat.le_trans hn hn2
   refine sq.c (v := .bool true) rfl rfl rfl rfl ?_
   refine sq.e ?_
   refine AWp.ret ?_
   refine ⟨rfl, [.bool true], rfl, .bool true, rfl, hs, hn, ?_⟩
   rfl
  ·rw [decide_eq_false c1_5]
   refine sq.t (v := .bool true) (wantT (g := 7) (d := 25) rfl rfl rfl) (CallsF.fn rfl (by kernel_rfl) rfl rfl) (fun hf => awake_spec (hld.keep hs)) hf rfl ?_
   intro n6 hn2 hf
   have hn := Nat.le_trans hn hn2
   refine sq.c (v := .bool false) (wantT (g := 7) (d := 25) rfl rfl rfl) rfl rfl rfl ?_
   refine sq.c (v := .bool false) rfl rfl rfl rfl ?_
   refine sq.e ?_
   refine AWp.condF rfl rfl ?_
   refine AWp.skip (AWp.seq (AWp.rowV (l := _) pok ?_))
   refine sq.k rfl (CallsF.fn rfl (by kernel_rfl) rfl rfl) (new_spec) ?_
   rintro _ h7 n8 ⟨bp, fp, gp, rfl, hb_bp, hb_fp, hb_gp, y_bp, y_fp, y_gp, ne_fp_gp⟩ s9 hn2 hf
   have z_fp := sub_none hs y_fp
   have z_gp := sub_none hs y_gp
   change Apt fp gp at ne_fp_gp
   have ne_bp_fp : Apt bp fp := by intro e; rw [e] at hb_bp; rw [hb_bp] at hb_fp; cases hb_fp
   have ne_bp_gp : Apt bp gp := by intro e; rw [e] at hb_bp; rw [hb_bp] at hb_gp; cases hb_gp
   have ok_fp : MOk ([] : FM) 0 := .nil
   have ok_gp : MOk ([] : SM) 0 := .nil
   refine sq.w ?_
   have hs := hs.trans s9
   have hn := Nat.le_trans hn hn2
   have hSp : SMIs h7 ([] : SM) ([] : SP) := SMIs.nil _
   refine sq.k rfl (CallsF.fn rfl (by kernel_rfl) rfl rfl) (new_spec) ?_
   rintro _ h10 n11 ⟨bq, fq, gq, rfl, hb_bq, hb_fq, hb_gq, y_bq, y_fq, y_gq, ne_fq_gq⟩ s12 hn2 hf
   have e_fp_bq : Apt fp bq := got_apt hb_fp y_bq
   have e_gp_bq : Apt gp bq := got_apt hb_gp y_bq
   have e_bp_fq : Apt bp fq := got_apt hb_bp y_fq
   have e_fp_fq : Apt fp fq := got_apt hb_fp y_fq
   have e_gp_fq : Apt gp fq := got_apt hb_gp y_fq
   have z_fq := sub_none hs y_fq
   have e_bp_gq : Apt bp gq := got_apt hb_bp y_gq
   have e_fp_gq : Apt fp gq := got_apt hb_fp y_gq
   have e_gp_gq : Apt gp gq := got_apt hb_gp y_gq
   have z_gq := sub_none hs y_gq
   change Apt fq gq at ne_fq_gq
   have ne_bq_fq : Apt bq fq := by intro e; rw [e] at hb_bq; rw [hb_bq] at hb_fq; cases hb_fq
   have ne_bq_gq : Apt bq gq := by intro e; rw [e] at hb_bq; rw [hb_bq] at hb_gq; cases hb_gq
   have ok_fq : MOk ([] : FM) 0 := .nil
   have ok_gq : MOk ([] : SM) 0 := .nil
   refine sq.w ?_
   have hSp := hSp.keep (.of0 s12)
   have hb_bp := s12.sub _ _ hb_bp
   have hb_fp := s12.sub _ _ hb_fp
   have hb_gp := s12.sub _ _ hb_gp
   have hs := hs.trans s12
   have hn := Nat.le_trans hn hn2
   have hSq : SMIs h10 ([] : SM) ([] : SP) := SMIs.nil _
   refine sq.c (v := .pointer (some ⟨bp, 0, none⟩)) rfl rfl rfl rfl ?_
   refine sq.c (v := .pointer (some ⟨bq, 0, none⟩)) rfl rfl rfl rfl ?_
   refine sq.e (AWp.seq (AWp.seq (AWp.rowV (l := _) pok ?_)))
   refine sq.c (v := .int .i64 (0)) rfl rfl rfl rfl ?_
   refine sq.e (AWp.block ?_)
   have hlo := hz_lo c_lo
   have hb60 := hlo.1
   have hrl : rs.length = bs.length := hd.1
   refine AWp.loopV (fun d vs h14 n15 => ∃ (i : Int) (P Q : PSt) (Gp Gq : SM), d = ((rs.length : Nat) - i + 1).toNat ∧ SubBut h h14 ([]) ∧ n ≤ n15 ∧ Free h14 n15 ∧ h14.get bp = some (.cells [.map (some fp), .map (some gp)] true ⟨69, 0, true⟩) ∧ h14.get fp = some (.map (mapE plV intV P.F) P.kf) ∧ h14.get gp = some (.map (mapE plV ownV Gp) P.kg) ∧ SMIs h14 Gp P.S ∧ h14.get bq = some (.cells [.map (some fq), .map (some gq)] true ⟨69, 0, true⟩) ∧ h14.get fq = some (.map (mapE plV intV Q.F) Q.kf) ∧ h14.get gq = some (.map (mapE plV ownV Gq) Q.kg) ∧ SMIs h14 Gq Q.S ∧ MOk P.F P.kf ∧ MOk Gp P.kg ∧ MOk Q.F Q.kf ∧ MOk Gq Q.kg ∧ (0 ≤ i) ∧ (i ≤ (rs.length : Nat)) ∧ (PInv i.toNat P) ∧ (PInv i.toNat Q) ∧ (Proj ten P Q) ∧ ∃ y13 : Nat → Value, vs = [.slice a (rs.length) cp, .string (ten), undef, undef, (y13 4), .pointer (some ⟨bp, 0, none⟩), .pointer (some ⟨bq, 0, none⟩), .int .i64 (i), (y13 8), (y13 9), (y13 10), (y13 11), (y13 12), (y13 13), undef, undef, undef, undef, .slice a (rs.length) cp, .bool false, .bool false, .string (ten), .int .i64 ((((ten).data.toList.length : Nat) : Int)), .bool false, .bool false, .bool false, .bool true, .bool false, .bool false, undef, .pointer (some ⟨bp, 0, none⟩), .pointer (some ⟨bq, 0, none⟩), (y13 32), (y13 33), (y13 34), (y13 35), (y13 36), (y13 37), (y13 38), (y13 39), (y13 40), (y13 41), (y13 42), (y13 43), (y13 44), (y13 45), (y13 46), (y13 47), (y13 48), (y13 49), (y13 50), (y13 51), (y13 52), (y13 53), (y13 54), (y13 55), (y13 56), (y13 57), (y13 58), (y13 59), (y13 60), (y13 61), (y13 62), (y13 63), (y13 64), (y13 65), (y13 66), (y13 67), (y13 68), (y13 69), (y13 70), (y13 71), (y13 72), (y13 73), (y13 74), (y13 75), (y13 76), (y13 77), (y13 78), (y13 79), (y13 80), (y13 81), (y13 82), (y13 83), (y13 84), (y13 85), (y13 86), (y13 87), (y13 88), (y13 89), (y13 90), (y13 91), (y13 92), (y13 93), (y13 94), (y13 95), (y13 96), (y13 97), (y13 98), (y13 99), (y13 100), (y13 101), (y13 102), (y13 103), (y13 104), (y13 105), (y13 106), (y13 107), (y13 108), (y13 109), (y13 110), (y13 111), (y13 112), (y13 113), (y13 114), (y13 115), (y13 116), (y13 117), (y13 118), (y13 119), (y13 120), (y13 121), (y13 122), (y13 123), (y13 124), undef, undef, undef, undef, undef, undef, undef, undef, undef, undef, undef, undef, undef, undef, undef, undef, undef, undef, undef, undef, undef, undef, undef, undef, undef, undef, undef, undef, undef, undef, undef, undef, undef, undef, undef, undef, undef, undef, undef, undef, undef, undef, undef, undef, undef, undef, undef, undef, undef, undef, undef, undef, undef, undef, undef, undef, undef, undef, undef]) (((rs.length : Nat) - (0 : Int) + 1).toNat) ⟨0, st0, st0, [], [], rfl, hs, hn, hf, hb_bp, hb_fp, hb_gp, hSp, hb_bq, hb_fq, hb_gq, hSq, ok_fp, ok_gp, ok_fq, ok_gq, (by omega), (by omega), (PInv.zero), (PInv.zero), (Proj.zero ten), getV [undef, undef, undef, undef, .bool false, undef, undef, undef, undef, undef, undef, undef, undef, undef, undef, undef, undef, undef, undef, undef, undef, undef, undef, undef, undef, undef, undef, undef, undef, undef, undef, undef, undef, undef, undef, undef, undef, undef, undef, undef, undef, undef, undef, undef, undef, undef, undef, undef, undef, undef, undef, undef, undef, undef, undef, undef, undef, undef, undef, undef, undef, undef, undef, undef, undef, undef, undef, undef, undef, undef, undef, undef, undef, undef, undef, undef, undef, undef, undef, undef, undef, undef, undef, undef, undef, undef, undef, undef, undef, undef, undef, undef, undef, undef, undef, undef, undef, undef, undef, undef, undef, undef, undef, undef, undef, undef, undef, undef, undef, undef, undef, undef, undef, undef, undef, undef, undef, undef, undef, undef, undef, undef, undef, undef, undef], rfl⟩ ?_
   rintro d vs h14 n15 ⟨i, P, Q, Gp, Gq, rfl, hs, hn, hf, hb_bp, hb_fp, hb_gp, hSp, hb_bq, hb_fq, hb_gq, hSq, okfp, okgp, okfq, okgq, hi0, hi1, hPi, hQi, hpr, y13, rfl⟩
   have hi60 : i.toNat ≤ 100 := by omega
   refine AWp.seq (AWp.seq (AWp.rowV (l := _) pok ?_))
   refine sq.c (v := .int .i64 (i)) rfl rfl rfl rfl ?_
   refine sq.c (v := .slice a (rs.length) cp) rfl rfl rfl rfl ?_
   refine sq.c (v := .int .i64 (((rs.length : Nat) : Int))) rfl rfl (by kernel_rfl) rfl ?_
   refine sq.c (v := .bool (decide (i < (((rs.length : Nat) : Int))))) rfl rfl rfl rfl ?_
   refine sq.e ?_
   by_cases c5_3 : i < (((rs.length : Nat) : Int))
   ·rw [decide_eq_true c5_3]
    refine AWp.condT rfl rfl ?_
    refine AWp.skip (AWp.seq (AWp.block (AWp.seq (AWp.rowV (l := _) pok ?_))))
    refine sq.c (v := .pointer (some ⟨bp, 0, none⟩)) rfl rfl rfl rfl ?_
    refine sq.k rfl (CallsF.fn rfl (by kernel_rfl) rfl rfl) (fencesOn (⟨hb_bp, hb_fp, hb_gp, okfp, okgp, hSp, ne_fp_gp⟩ : At _ P _ _ _ _ Gp) hPi hi60) ?_
    rintro v_a15 h16 n17 R_a15 s18 hn2 hf
    obtain ⟨a_a15, c_a15, e_a15⟩ := R_a15.slice
    subst e_a15
    change FRow encFen _ (.slice a_a15 (fencesV P.F).length c_a15) (fencesV P.F) at R_a15
    refine sq.w ?_
    have hSp := hSp.keep (.of0 s18)
    have hSq := hSq.keep (.of0 s18)
    have hb_bp := s18.sub _ _ hb_bp
    have hb_fp := s18.sub _ _ hb_fp
    have hb_gp := s18.sub _ _ hb_gp
    have hb_bq := s18.sub _ _ hb_bq
    have hb_fq := s18.sub _ _ hb_fq
    have hb_gq := s18.sub _ _ hb_gq
    have hs := hs.trans s18
    have hn := Nat.le_trans hn hn2
    refine sq.c (v := .slice a_a15 (fencesV P.F).length c_a15) rfl rfl rfl rfl ?_
    refine sq.e (AWp.seq (AWp.rowV (l := _) pok ?_))
    refine sq.c (v := .pointer (some ⟨bp, 0, none⟩)) rfl rfl rfl rfl ?_
    refine sq.c (v := .slice a (rs.length) cp) rfl rfl rfl rfl ?_
    refine sq.c (v := .int .i64 (i)) rfl rfl rfl rfl ?_
    have i25 : (0 : Int) ≤ (i : Int) := by omega
    obtain ⟨x26, hx_x26⟩ : ∃ x, (rs)[((i : Int)).toNat]? = some x := ⟨_, List.getElem?_eq_getElem (by omega)⟩
    obtain ⟨y_x26, hy_x26, hb_x26⟩ := hd.at hx_x26
    obtain ⟨t_x26, c_x26, e_x26, v_x26⟩ := x26
    obtain ⟨rfl, rfl, rfl, rs_x26, R_x26, D_x26⟩ := hb_x26
    obtain ⟨a_x26, c_x26, rfl⟩ := (show FRow encSer _ v_x26 rs_x26 from R_x26).slice
    obtain ⟨b19, o20, cs_b19, ow_b19, ci_b19, ie24, hb21, hc22, hr23⟩ := IsRow.at (P := Tryd.prog) (t := 22) (e := 31) (k := .i64) (by kernel_rfl) (by kernel_rfl) (hr.keep (.of0 hs)).is i25 hx_x26
    refine sq.c (v := .pointer (some ⟨b19, o20, none⟩)) rfl rfl ie24 rfl ?_
    refine sq.c (v := .agg #[.string (y_x26.ten), .string (y_x26.clu), .int .i64 (y_x26.epo), .slice a_x26 (rs_x26.length) c_x26]) rfl rfl (ldR (P := Tryd.prog) (t := 31) (k := 4) (xs := [.string (y_x26.ten), .string (y_x26.clu), .int .i64 (y_x26.epo), .slice a_x26 (rs_x26.length) c_x26]) (by kernel_rfl) (by kernel_rfl) hr23) rfl ?_
    have hsb := hlo.2 _ (List.mem_of_getElem? hy_x26)
    obtain ⟨R, hR⟩ : ∃ R, R = takeP P y_x26 := ⟨_, rfl⟩
    have hPi2 : PInv (i.toNat + 1) R.st := by rw [hR]; exact hPi.step hsb.2.2
    have hi61 : i.toNat + 1 ≤ 100 := by omega
    refine sq.k rfl (CallsF.fn rfl (by kernel_rfl) rfl rfl) (takeOn (⟨hb_bp, hb_fp, hb_gp, okfp, okgp, hSp, ne_fp_gp⟩ : At _ P _ _ _ _ Gp) y_x26 _ (R_x26.keep (.of0 hs)).is (D_x26.keep (.of0 hs)).is (hld.keep hs) hPi hi60 hsb hR) ?_
    rintro _ h27 n28 ⟨w_x, os_x, G_x, rfl, W_x, D_x, hf_x, hg_x, okF_x, okG_x, hS_x⟩ s29 hn2 hf
    obtain ⟨a_x, c_x, rfl⟩ := W_x.slice
    refine sq.w ?_
    have ours_s29 : Ours _ [fp, gp] := .cons hb_fp rfl (.cons hb_gp rfl (.nil _))
    have hSq := hSq.keep (.of s29 ours_s29)
    have hb_bp := s29.get2 (ne_bp_fp) (ne_bp_gp) hb_bp
    have hb_bq := s29.get2 (Ne.symm e_fp_bq) (Ne.symm e_gp_bq) hb_bq
    have hb_fq := s29.get2 (Ne.symm e_fp_fq) (Ne.symm e_gp_fq) hb_fq
    have hb_gq := s29.get2 (Ne.symm e_fp_gq) (Ne.symm e_gp_gq) hb_gq
    have hs := hs.fresh2 z_fp z_gp s29
    have hn := Nat.le_trans hn hn2
    have hSp := hS_x
    refine sq.c (v := .tuple #[.agg #[.string (R.kb.ten), .string (R.kb.clu), .int .i64 (R.kb.epo), .slice a_x (os_x.length) c_x, .int .i64 (R.bad), .bool (R.rose)], .int .i64 (R.e)]) rfl rfl rfl rfl ?_
    refine sq.c (v := .agg #[.string (R.kb.ten), .string (R.kb.clu), .int .i64 (R.kb.epo), .slice a_x (os_x.length) c_x, .int .i64 (R.bad), .bool (R.rose)]) rfl rfl rfl rfl ?_
    refine sq.c (v := .int .i64 (R.e)) rfl rfl rfl rfl ?_
    have e_bp_n28 : Apt bp n28 := hf.ne hb_bp
    have e_fp_n28 : Apt fp n28 := hf.ne hf_x
    have e_gp_n28 : Apt gp n28 := hf.ne hg_x
    have e_bq_n28 : Apt bq n28 := hf.ne hb_bq
    have e_fq_n28 : Apt fq n28 := hf.ne hb_fq
    have e_gq_n28 : Apt gq n28 := hf.ne hb_gq
    have z_n28 : h.get n28 = none := hf0 _ hn
    refine sq.op rfl rfl (Does.alloc (cs := [.string (⟨#[]⟩), .string (⟨#[]⟩), .int .i64 (0), .slice none (0) (0), .int .i64 (0), .bool false]) hf (z := .agg #[.string (⟨#[]⟩), .string (⟨#[]⟩), .int .i64 (0), .slice none (0) (0), .int .i64 (0), .bool false]) (by kernel_rfl) rfl) ?_
    rintro _ h31 n32 ⟨rfl, hb30⟩ s33 hn2 hf
    refine sq.w ?_
    have hSq := hSq.keep (.of0 s33)
    have hSp := hSp.keep (.of0 s33)
    have W_x := W_x.keep (.of0 s33)
    have D_x := D_x.keep (.of0 s33)
    have hb_bp := s33.sub _ _ hb_bp
    have hf_x := s33.sub _ _ hf_x
    have hg_x := s33.sub _ _ hg_x
    have hb_bq := s33.sub _ _ hb_bq
    have hb_fq := s33.sub _ _ hb_fq
    have hb_gq := s33.sub _ _ hb_gq
    have hs := hs.trans s33
    have hn := Nat.le_trans hn hn2
    refine sq.op rfl rfl (Does.store (k := 6) (xs := [.string (R.kb.ten), .string (R.kb.clu), .int .i64 (R.kb.epo), .slice a_x (os_x.length) c_x, .int .i64 (R.bad), .bool (R.rose)]) (cs' := [.string (R.kb.ten), .string (R.kb.clu), .int .i64 (R.kb.epo), .slice a_x (os_x.length) c_x, .int .i64 (R.bad), .bool (R.rose)]) hf (by kernel_rfl) rfl rfl rfl hb30 rfl rfl (Nat.le_of_ble_eq_true rfl) rfl) ?_
    rintro _ h35 n36 ⟨rfl, hb34⟩ s37 hn2 hf
    refine sq.w0 ?_
    have hSq := hSq.keep (.own s37 hb30 rfl)
    have hSp := hSp.keep (.own s37 hb30 rfl)
    have W_x := W_x.keep (.own s37 hb30 rfl)
    have D_x := D_x.keep (.own s37 hb30 rfl)
    have hb_bp := s37.get1 (e_bp_n28) hb_bp
    have hf_x := s37.get1 (e_fp_n28) hf_x
    have hg_x := s37.get1 (e_gp_n28) hg_x
    have hb_bq := s37.get1 (e_bq_n28) hb_bq
    have hb_fq := s37.get1 (e_fq_n28) hb_fq
    have hb_gq := s37.get1 (e_gq_n28) hb_gq
    have hs := hs.fresh z_n28 s37
    have hn := Nat.le_trans hn hn2
    refine sq.c (v := .int .i64 (R.e)) rfl rfl rfl rfl ?_
    refine sq.e (AWp.seq (AWp.rowV (l := _) pok ?_))
    refine sq.c (v := .pointer (some ⟨bp, 0, none⟩)) rfl rfl rfl rfl ?_
    have hft := take_fences P y_x26
    rw [← hR] at hft
    have hfa := fencesV_len P.F
    have hfb := fencesV_len R.F
    have hfl2 := hPi.lenF
    refine sq.k rfl (CallsF.fn rfl (by kernel_rfl) rfl rfl) (fencesOn (⟨hb_bp, hf_x, hg_x, okF_x, okG_x, hSp, ne_fp_gp⟩ : At _ R.st _ _ _ _ G_x) hPi2 hi61) ?_
    rintro v_b37 h38 n39 R_b37 s40 hn2 hf
    obtain ⟨a_b37, c_b37, e_b37⟩ := R_b37.slice
    subst e_b37
    change FRow encFen _ (.slice a_b37 (fencesV R.F).length c_b37) (fencesV R.F) at R_b37
    refine sq.w ?_
    have hSq := hSq.keep (.of0 s40)
    have hSp := hSp.keep (.of0 s40)
    have W_x := W_x.keep (.of0 s40)
    have D_x := D_x.keep (.of0 s40)
    have hb_bp := s40.sub _ _ hb_bp
    have hf_x := s40.sub _ _ hf_x
    have hg_x := s40.sub _ _ hg_x
    have hb_bq := s40.sub _ _ hb_bq
    have hb_fq := s40.sub _ _ hb_fq
    have hb_gq := s40.sub _ _ hb_gq
    have hb34 := s40.sub _ _ hb34
    have hs := hs.trans s40
    have hn := Nat.le_trans hn hn2
    refine sq.c (v := .slice a_b37 (fencesV R.F).length c_b37) rfl rfl rfl rfl ?_
    refine sq.e (AWp.seq (AWp.seq (AWp.rowV (l := _) pok ?_)))
    refine sq.c (v := .slice a (rs.length) cp) rfl rfl rfl rfl ?_
    refine sq.c (v := .int .i64 (i)) rfl rfl rfl rfl ?_
    have i47 : (0 : Int) ≤ (i : Int) := by omega
    obtain ⟨b41, o42, cs_b41, ow_b41, ci_b41, ie46, hb43, hc44, hr45⟩ := IsRow.at (P := Tryd.prog) (t := 22) (e := 31) (k := .i64) (by kernel_rfl) (by kernel_rfl) (hr.keep (.of0 hs)).is i47 hx_x26
    refine sq.c (v := .pointer (some ⟨b41, o42, none⟩)) rfl rfl ie46 rfl ?_
    refine sq.c (v := .pointer (some ⟨b41, o42 + 1, none⟩)) rfl rfl (by kernel_rfl) rfl ?_
    refine sq.c (v := .string (y_x26.clu)) rfl rfl (ld1 (P := Tryd.prog) (t := 9) (p := o42 + 1) (v := .string (y_x26.clu)) (by kernel_rfl) (by kernel_rfl) hb43 (hc44 1 _ rfl)) rfl ?_
    refine sq.c (v := .bool (decide (y_x26.clu = (⟨#[]⟩ : ByteArray)))) rfl rfl (eqD _ _) rfl ?_
    refine sq.c (v := .bool (decide (y_x26.clu = (⟨#[]⟩ : ByteArray)))) rfl rfl rfl rfl ?_
    by_cases c10_5 : y_x26.clu = (⟨#[]⟩ : ByteArray)
    ·rw [decide_eq_true c10_5]
     refine sq.c (v := .slice a_b37 (fencesV R.F).length c_b37) (wantT (g := 6) (d := 57) rfl rfl rfl) rfl rfl rfl ?_
     refine sq.c (v := .int .i64 ((((fencesV R.F).length : Nat) : Int))) (wantT (g := 6) (d := 57) rfl rfl rfl) rfl (by kernel_rfl) rfl ?_
     refine sq.c (v := .slice a_a15 (fencesV P.F).length c_a15) (wantT (g := 6) (d := 57) rfl rfl rfl) rfl rfl rfl ?_
     refine sq.c (v := .int .i64 ((((fencesV P.F).length : Nat) : Int))) (wantT (g := 6) (d := 57) rfl rfl rfl) rfl (by kernel_rfl) rfl ?_
     refine sq.c (v := .bool (!decide (((((fencesV R.F).length : Nat) : Int)) = ((((fencesV P.F).length : Nat) : Int))))) (wantT (g := 6) (d := 57) rfl rfl rfl) rfl rfl rfl ?_
     refine sq.c (v := .bool (!decide (((((fencesV R.F).length : Nat) : Int)) = ((((fencesV P.F).length : Nat) : Int))))) rfl rfl rfl rfl ?_
     refine sq.c (v := .bool (!decide (((((fencesV R.F).length : Nat) : Int)) = ((((fencesV P.F).length : Nat) : Int))))) rfl rfl rfl rfl ?_
     by_cases c10_11 : ((((fencesV R.F).length : Nat) : Int)) = ((((fencesV P.F).length : Nat) : Int))
     ·rw [decide_eq_true c10_11]
      refine sq.c (v := .slice a_b37 (fencesV R.F).length c_b37) (wantT (g := 13) (d := 64) rfl rfl rfl) rfl rfl rfl ?_
      refine sq.c (v := .int .i64 ((((fencesV R.F).length : Nat) : Int))) (wantT (g := 13) (d := 64) rfl rfl rfl) rfl (by kernel_rfl) rfl ?_
      refine sq.c (v := .slice a_a15 (fencesV P.F).length c_a15) (wantT (g := 13) (d := 64) rfl rfl rfl) rfl rfl rfl ?_
      refine sq.c (v := .int .i64 ((((fencesV P.F).length : Nat) : Int))) (wantT (g := 13) (d := 64) rfl rfl rfl) rfl (by kernel_rfl) rfl ?_
      refine sq.c (v := .int .i64 (((((fencesV P.F).length : Nat) : Int)) + 1)) (wantT (g := 13) (d := 64) rfl rfl rfl) rfl (okI (wrap_i64 (by omega) (by omega))) rfl ?_
      refine sq.c (v := .bool (decide ((((((fencesV P.F).length : Nat) : Int)) + 1) < ((((fencesV R.F).length : Nat) : Int))))) (wantT (g := 13) (d := 64) rfl rfl rfl) rfl rfl rfl ?_
      refine sq.c (v := .bool (decide ((((((fencesV P.F).length : Nat) : Int)) + 1) < ((((fencesV R.F).length : Nat) : Int))))) rfl rfl rfl rfl ?_
      refine sq.c (v := .bool (decide ((((((fencesV P.F).length : Nat) : Int)) + 1) < ((((fencesV R.F).length : Nat) : Int))))) rfl rfl rfl rfl ?_
      by_cases c10_19 : (((((fencesV P.F).length : Nat) : Int)) + 1) < ((((fencesV R.F).length : Nat) : Int))
      ·exfalso
       have q_ := hft.2.1
       omega
      ·rw [decide_eq_false c10_19]
       refine sq.c (v := .slice a_b37 (fencesV R.F).length c_b37) (wantT (g := 21) (d := 72) rfl rfl rfl) rfl rfl rfl ?_
       refine sq.c (v := .int .i64 ((((fencesV R.F).length : Nat) : Int))) (wantT (g := 21) (d := 72) rfl rfl rfl) rfl (by kernel_rfl) rfl ?_
       refine sq.c (v := .slice a_a15 (fencesV P.F).length c_a15) (wantT (g := 21) (d := 72) rfl rfl rfl) rfl rfl rfl ?_
       refine sq.c (v := .int .i64 ((((fencesV P.F).length : Nat) : Int))) (wantT (g := 21) (d := 72) rfl rfl rfl) rfl (by kernel_rfl) rfl ?_
       refine sq.c (v := .bool (decide (((((fencesV P.F).length : Nat) : Int)) < ((((fencesV R.F).length : Nat) : Int))))) (wantT (g := 21) (d := 72) rfl rfl rfl) rfl rfl rfl ?_
       refine sq.c (v := .bool (decide (((((fencesV P.F).length : Nat) : Int)) < ((((fencesV R.F).length : Nat) : Int))))) (wantT (g := 21) (d := 72) rfl rfl rfl) rfl rfl rfl ?_
       by_cases c10_26 : ((((fencesV P.F).length : Nat) : Int)) < ((((fencesV R.F).length : Nat) : Int))
       ·rw [decide_eq_true c10_26]
        refine sq.c (v := .pointer (some ⟨n28, 5, none⟩)) (wantT (g := 27) (d := 78) rfl rfl rfl) rfl (by kernel_rfl) rfl ?_
        refine sq.c (v := .bool (R.rose)) (wantT (g := 27) (d := 78) rfl rfl rfl) rfl (ld1 (P := Tryd.prog) (t := 4) (p := 5) (v := .bool (R.rose)) (by kernel_rfl) (by kernel_rfl) hb34 rfl) rfl ?_
        rcases Bool.eq_false_or_eq_true (R.rose) with cr_x | cr_x
        ·rw [cr_x]
         rw [cr_x] at hb34
         refine sq.c (v := .bool false) (wantT (g := 27) (d := 78) rfl rfl rfl) rfl rfl rfl ?_
         refine sq.c (v := .bool false) (wantT (g := 21) (d := 72) rfl rfl rfl) rfl rfl rfl ?_
         refine sq.c (v := .bool false) rfl rfl rfl rfl ?_
         refine sq.e ?_
         refine AWp.condF rfl rfl ?_
         refine AWp.skip (AWp.seq (AWp.seq (AWp.rowV (l := _) pok ?_)))
         refine sq.c (v := .slice a (rs.length) cp) rfl rfl rfl rfl ?_
         refine sq.c (v := .int .i64 (i)) rfl rfl rfl rfl ?_
         have i54 : (0 : Int) ≤ (i : Int) := by omega
         obtain ⟨b48, o49, cs_b48, ow_b48, ci_b48, ie53, hb50, hc51, hr52⟩ := IsRow.at (P := Tryd.prog) (t := 22) (e := 31) (k := .i64) (by kernel_rfl) (by kernel_rfl) (hr.keep (.of0 hs)).is i54 hx_x26
         refine sq.c (v := .pointer (some ⟨b48, o49, none⟩)) rfl rfl ie53 rfl ?_
         refine sq.c (v := .pointer (some ⟨b48, o49, none⟩)) rfl rfl (by kernel_rfl) rfl ?_
         refine sq.c (v := .string (y_x26.ten)) rfl rfl (ld1 (P := Tryd.prog) (t := 9) (p := o49 + 0) (v := .string (y_x26.ten)) (by kernel_rfl) (by kernel_rfl) hb50 (hc51 0 _ rfl)) rfl ?_
         refine sq.c (v := .string (ten)) rfl rfl rfl rfl ?_
         refine sq.c (v := .bool (!decide (y_x26.ten = ten))) rfl rfl (neD _ _) rfl ?_
         refine sq.e ?_
         by_cases c12_6 : y_x26.ten = ten
         ·rw [decide_eq_true c12_6]
          refine AWp.condF rfl rfl ?_
          refine AWp.skip (AWp.seq (AWp.rowV (l := _) pok ?_))
          refine sq.c (v := .pointer (some ⟨bq, 0, none⟩)) rfl rfl rfl rfl ?_
          refine sq.c (v := .slice a (rs.length) cp) rfl rfl rfl rfl ?_
          refine sq.c (v := .int .i64 (i)) rfl rfl rfl rfl ?_
          have i61 : (0 : Int) ≤ (i : Int) := by omega
          obtain ⟨b55, o56, cs_b55, ow_b55, ci_b55, ie60, hb57, hc58, hr59⟩ := IsRow.at (P := Tryd.prog) (t := 22) (e := 31) (k := .i64) (by kernel_rfl) (by kernel_rfl) (hr.keep (.of0 hs)).is i61 hx_x26
          refine sq.c (v := .pointer (some ⟨b55, o56, none⟩)) rfl rfl ie60 rfl ?_
          refine sq.c (v := .agg #[.string (y_x26.ten), .string (y_x26.clu), .int .i64 (y_x26.epo), .slice a_x26 (rs_x26.length) c_x26]) rfl rfl (ldR (P := Tryd.prog) (t := 31) (k := 4) (xs := [.string (y_x26.ten), .string (y_x26.clu), .int .i64 (y_x26.epo), .slice a_x26 (rs_x26.length) c_x26]) (by kernel_rfl) (by kernel_rfl) hr59) rfl ?_
          obtain ⟨Ry, hRy⟩ : ∃ R, R = takeP Q y_x26 := ⟨_, rfl⟩
          have hQi2 : PInv (i.toNat + 1) Ry.st := by rw [hRy]; exact hQi.step hsb.2.2
          have hkb : SmallB R.kb := by rw [hR]; exact kb_small hsb
          refine sq.k rfl (CallsF.fn rfl (by kernel_rfl) rfl rfl) (takeApart (⟨hb_bq, hb_fq, hb_gq, okfq, okgq, hSq, ne_fq_gq⟩ : At _ Q _ _ _ _ Gq) y_x26 _ (R_x26.keep (.of0 hs)).is (D_x26.keep (.of0 hs)).is (hld.keep hs) hQi hi60 hsb hpr c12_6 hR hRy) ?_
          rintro _ h62 n63 ⟨w_y, os_y, G_y, rfl, W_y, D_y, hf_y, hg_y, okF_y, okG_y, hS_y⟩ s64 hn2 hf
          obtain ⟨a_y, c_y, rfl⟩ := W_y.slice
          refine sq.w ?_
          have ours_s64 : Ours _ [fq, gq] := .cons hb_fq rfl (.cons hb_gq rfl (.nil _))
          have hSp := hSp.keep (.of s64 ours_s64)
          have W_x := W_x.keep (.of s64 ours_s64)
          have D_x := D_x.keep (.of s64 ours_s64)
          have hb_bp := s64.get2 (e_bp_fq) (e_bp_gq) hb_bp
          have hf_x := s64.get2 (e_fp_fq) (e_fp_gq) hf_x
          have hg_x := s64.get2 (e_gp_fq) (e_gp_gq) hg_x
          have hb_bq := s64.get2 (ne_bq_fq) (ne_bq_gq) hb_bq
          have hb34 := s64.get2 (Ne.symm e_fq_n28) (Ne.symm e_gq_n28) hb34
          have hs := hs.fresh2 z_fq z_gq s64
          have hn := Nat.le_trans hn hn2
          have hSq := hS_y
          refine sq.c (v := .tuple #[.agg #[.string (R.kb.ten), .string (R.kb.clu), .int .i64 (R.kb.epo), .slice a_y (os_y.length) c_y, .int .i64 (R.bad), .bool (R.rose)], .int .i64 (R.e)]) rfl rfl rfl rfl ?_
          refine sq.c (v := .agg #[.string (R.kb.ten), .string (R.kb.clu), .int .i64 (R.kb.epo), .slice a_y (os_y.length) c_y, .int .i64 (R.bad), .bool (R.rose)]) rfl rfl rfl rfl ?_
          refine sq.c (v := .int .i64 (R.e)) rfl rfl rfl rfl ?_
          have e_bp_n63 : Apt bp n63 := hf.ne hb_bp
          have e_fp_n63 : Apt fp n63 := hf.ne hf_x
          have e_gp_n63 : Apt gp n63 := hf.ne hg_x
          have e_bq_n63 : Apt bq n63 := hf.ne hb_bq
          have e_fq_n63 : Apt fq n63 := hf.ne hf_y
          have e_gq_n63 : Apt gq n63 := hf.ne hg_y
          have e_n28_n63 : Apt n28 n63 := hf.ne hb34
          have z_n63 : h.get n63 = none := hf0 _ hn
          refine sq.op rfl rfl (Does.alloc (cs := [.string (⟨#[]⟩), .string (⟨#[]⟩), .int .i64 (0), .slice none (0) (0), .int .i64 (0), .bool false]) hf (z := .agg #[.string (⟨#[]⟩), .string (⟨#[]⟩), .int .i64 (0), .slice none (0) (0), .int .i64 (0), .bool false]) (by kernel_rfl) rfl) ?_
          rintro _ h66 n67 ⟨rfl, hb65⟩ s68 hn2 hf
          refine sq.w ?_
          have hSp := hSp.keep (.of0 s68)
          have W_x := W_x.keep (.of0 s68)
          have D_x := D_x.keep (.of0 s68)
          have hSq := hSq.keep (.of0 s68)
          have W_y := W_y.keep (.of0 s68)
          have D_y := D_y.keep (.of0 s68)
          have hb_bp := s68.sub _ _ hb_bp
          have hf_x := s68.sub _ _ hf_x
          have hg_x := s68.sub _ _ hg_x
          have hb_bq := s68.sub _ _ hb_bq
          have hf_y := s68.sub _ _ hf_y
          have hg_y := s68.sub _ _ hg_y
          have hb34 := s68.sub _ _ hb34
          have hs := hs.trans s68
          have hn := Nat.le_trans hn hn2
          refine sq.op rfl rfl (Does.store (k := 6) (xs := [.string (R.kb.ten), .string (R.kb.clu), .int .i64 (R.kb.epo), .slice a_y (os_y.length) c_y, .int .i64 (R.bad), .bool (R.rose)]) (cs' := [.string (R.kb.ten), .string (R.kb.clu), .int .i64 (R.kb.epo), .slice a_y (os_y.length) c_y, .int .i64 (R.bad), .bool (R.rose)]) hf (by kernel_rfl) rfl rfl rfl hb65 rfl rfl (Nat.le_of_ble_eq_true rfl) rfl) ?_
          rintro _ h70 n71 ⟨rfl, hb69⟩ s72 hn2 hf
          refine sq.w0 ?_
          have hSp := hSp.keep (.own s72 hb65 rfl)
          have W_x := W_x.keep (.own s72 hb65 rfl)
          have D_x := D_x.keep (.own s72 hb65 rfl)
          have hSq := hSq.keep (.own s72 hb65 rfl)
          have W_y := W_y.keep (.own s72 hb65 rfl)
          have D_y := D_y.keep (.own s72 hb65 rfl)
          have hb_bp := s72.get1 (e_bp_n63) hb_bp
          have hf_x := s72.get1 (e_fp_n63) hf_x
          have hg_x := s72.get1 (e_gp_n63) hg_x
          have hb_bq := s72.get1 (e_bq_n63) hb_bq
          have hf_y := s72.get1 (e_fq_n63) hf_y
          have hg_y := s72.get1 (e_gq_n63) hg_y
          have hb34 := s72.get1 (e_n28_n63) hb34
          have hs := hs.fresh z_n63 s72
          have hn := Nat.le_trans hn hn2
          refine sq.c (v := .int .i64 (R.e)) rfl rfl rfl rfl ?_
          refine sq.e (AWp.seq (AWp.rowV (l := _) pok ?_))
          refine sq.c (v := .int .i64 (R.e)) rfl rfl rfl rfl ?_
          refine sq.c (v := .int .i64 (R.e)) rfl rfl rfl rfl ?_
          refine sq.c (v := .bool (!decide (R.e = R.e))) rfl rfl rfl rfl ?_
          refine sq.c (v := .bool (!decide (R.e = R.e))) rfl rfl rfl rfl ?_
          by_cases c14_2 : R.e = R.e
          ·rw [decide_eq_true c14_2]
           refine sq.c (v := .pointer (some ⟨n28, 4, none⟩)) (wantT (g := 3) (d := 103) rfl rfl rfl) rfl (by kernel_rfl) rfl ?_
           refine sq.c (v := .int .i64 (R.bad)) (wantT (g := 3) (d := 103) rfl rfl rfl) rfl (ld1 (P := Tryd.prog) (t := 3) (p := 4) (v := .int .i64 (R.bad)) (by kernel_rfl) (by kernel_rfl) hb34 rfl) rfl ?_
           refine sq.c (v := .pointer (some ⟨n63, 4, none⟩)) (wantT (g := 3) (d := 103) rfl rfl rfl) rfl (by kernel_rfl) rfl ?_
           refine sq.c (v := .int .i64 (R.bad)) (wantT (g := 3) (d := 103) rfl rfl rfl) rfl (ld1 (P := Tryd.prog) (t := 3) (p := 4) (v := .int .i64 (R.bad)) (by kernel_rfl) (by kernel_rfl) hb69 rfl) rfl ?_
           refine sq.c (v := .bool (!decide (R.bad = R.bad))) (wantT (g := 3) (d := 103) rfl rfl rfl) rfl rfl rfl ?_
           refine sq.c (v := .bool (!decide (R.bad = R.bad))) rfl rfl rfl rfl ?_
           refine sq.c (v := .bool (!decide (R.bad = R.bad))) rfl rfl rfl rfl ?_
           by_cases c14_8 : R.bad = R.bad
           ·rw [decide_eq_true c14_8]
            refine sq.c (v := .pointer (some ⟨n28, 5, none⟩)) (wantT (g := 10) (d := 110) rfl rfl rfl) rfl (by kernel_rfl) rfl ?_
            refine sq.c (v := .bool true) (wantT (g := 10) (d := 110) rfl rfl rfl) rfl (ld1 (P := Tryd.prog) (t := 4) (p := 5) (v := .bool true) (by kernel_rfl) (by kernel_rfl) hb34 rfl) rfl ?_
            refine sq.c (v := .pointer (some ⟨n63, 5, none⟩)) (wantT (g := 10) (d := 110) rfl rfl rfl) rfl (by kernel_rfl) rfl ?_
            refine sq.c (v := .bool (R.rose)) (wantT (g := 10) (d := 110) rfl rfl rfl) rfl (ld1 (P := Tryd.prog) (t := 4) (p := 5) (v := .bool (R.rose)) (by kernel_rfl) (by kernel_rfl) hb69 rfl) rfl ?_
            refine sq.c (v := .bool (true != (R.rose))) (wantT (g := 10) (d := 110) rfl rfl rfl) rfl (boolNeq _ _) rfl ?_
            refine sq.c (v := .bool (true != (R.rose))) rfl rfl rfl rfl ?_
            refine sq.c (v := .bool (true != (R.rose))) rfl rfl rfl rfl ?_
            rcases Bool.eq_false_or_eq_true (true != (R.rose)) with c14_15 | c14_15
            ·exfalso
             rw [cr_x] at c14_15
             exact absurd c14_15 (by decide)
            ·rw [c14_15]
             refine sq.c (v := .pointer (some ⟨n28, 0, none⟩)) (wantT (g := 17) (d := 117) rfl rfl rfl) rfl (by kernel_rfl) rfl ?_
             refine sq.c (v := .agg #[.string (R.kb.ten), .string (R.kb.clu), .int .i64 (R.kb.epo), .slice a_x (os_x.length) c_x]) (wantT (g := 17) (d := 117) rfl rfl rfl) rfl (ldA (P := Tryd.prog) (t := 31) (p := 0) (k := 4) (xs := [.string (R.kb.ten), .string (R.kb.clu), .int .i64 (R.kb.epo), .slice a_x (os_x.length) c_x]) (by kernel_rfl) (by kernel_rfl) hb34 rfl (Nat.le_of_ble_eq_true rfl)) rfl ?_
             refine sq.c (v := .pointer (some ⟨n63, 0, none⟩)) (wantT (g := 17) (d := 117) rfl rfl rfl) rfl (by kernel_rfl) rfl ?_
             refine sq.c (v := .agg #[.string (R.kb.ten), .string (R.kb.clu), .int .i64 (R.kb.epo), .slice a_y (os_y.length) c_y]) (wantT (g := 17) (d := 117) rfl rfl rfl) rfl (ldA (P := Tryd.prog) (t := 31) (p := 0) (k := 4) (xs := [.string (R.kb.ten), .string (R.kb.clu), .int .i64 (R.kb.epo), .slice a_y (os_y.length) c_y]) (by kernel_rfl) (by kernel_rfl) hb69 rfl (Nat.le_of_ble_eq_true rfl)) rfl ?_
             refine sq.t (v := .bool (decide (R.kb.ten = R.kb.ten ∧ R.kb.clu = R.kb.clu ∧ (R.kb.epo : Int) = R.kb.epo ∧ R.kb.ser = R.kb.ser))) (wantT (g := 17) (d := 117) rfl rfl rfl) (CallsF.fn rfl (by kernel_rfl) rfl rfl) (fun hf => sameBat_spec R.kb.ten R.kb.clu R.kb.ten R.kb.clu R.kb.epo R.kb.epo _ _ R.kb.ser R.kb.ser W_x.is D_x.is W_y.is D_y.is (by rw [D_x.1]; exact Nat.lt_of_le_of_lt hkb.2.2.1 (by decide)) (fun s hs9 => ⟨Nat.lt_of_le_of_lt (hkb.2.2.2 s hs9).1 (by decide), Nat.lt_trans (hkb.2.2.2 s hs9).2.1 (by decide)⟩)) hf rfl ?_
             intro n73 hn2 hf
             have hn := Nat.le_trans hn hn2
             rcases Bool.eq_false_or_eq_true (decide (R.kb.ten = R.kb.ten ∧ R.kb.clu = R.kb.clu ∧ (R.kb.epo : Int) = R.kb.epo ∧ R.kb.ser = R.kb.ser)) with c14_22 | c14_22
             ·rw [c14_22]
              refine sq.c (v := .bool false) (wantT (g := 17) (d := 117) rfl rfl rfl) rfl rfl rfl ?_
              refine sq.c (v := .bool false) rfl rfl rfl rfl ?_
              refine sq.e ?_
              refine AWp.condF rfl rfl ?_
              refine AWp.skip (AWp.rowV (l := _) pok ?_)
              refine sq.c (v := .int .i64 (i)) rfl rfl rfl rfl ?_
              refine sq.c (v := .int .i64 (i + 1)) rfl rfl (okI (wrap_i64 (by omega) (by omega))) rfl ?_
              refine sq.c (v := .int .i64 (i + 1)) rfl rfl rfl rfl ?_
              refine sq.e ?_
              refine ⟨_, _, rfl, (by omega), i + 1, R.st, Ry.st, G_x, G_y, rfl, hs, hn, hf, hb_bp, hf_x, hg_x, hSp, hb_bq, hf_y, hg_y, hSq, okF_x, okG_x, okF_y, okG_y, (by omega), (by omega), (by rw [show (i + 1).toNat = i.toNat + 1 by omega]; exact hPi2), (by rw [show (i + 1).toNat = i.toNat + 1 by omega]; exact hQi2), (by rw [hR, hRy]; exact (take_apart hpr c12_6).2.2.2.2), getV [undef, undef, undef, undef, (y13 4), undef, undef, undef, .slice a_a15 (fencesV P.F).length c_a15, .pointer (some ⟨n28, 0, none⟩), .int .i64 (R.e), .slice a_b37 (fencesV R.F).length c_b37, .pointer (some ⟨n63, 0, none⟩), .int .i64 (R.e), undef, undef, undef, undef, undef, undef, undef, undef, undef, undef, undef, undef, undef, undef, undef, undef, undef, undef, .int .i64 (i), .slice a (rs.length) cp, .int .i64 (((rs.length : Nat) : Int)), .bool true, .int .i64 (i), .int .i64 (i + 1), .pointer (some ⟨bp, 0, none⟩), .slice a_a15 (fencesV P.F).length c_a15, .tuple #[.agg #[.string (R.kb.ten), .string (R.kb.clu), .int .i64 (R.kb.epo), .slice a_x (os_x.length) c_x, .int .i64 (R.bad), .bool true], .int .i64 (R.e)], .pointer (some ⟨bp, 0, none⟩), .slice a (rs.length) cp, .int .i64 (i), .pointer (some ⟨b19, o20, none⟩), .agg #[.string (y_x26.ten), .string (y_x26.clu), .int .i64 (y_x26.epo), .slice a_x26 (rs_x26.length) c_x26], .tuple #[.agg #[.string (R.kb.ten), .string (R.kb.clu), .int .i64 (R.kb.epo), .slice a_x (os_x.length) c_x, .int .i64 (R.bad), .bool true], .int .i64 (R.e)], .agg #[.string (R.kb.ten), .string (R.kb.clu), .int .i64 (R.kb.epo), .slice a_x (os_x.length) c_x, .int .i64 (R.bad), .bool true], .int .i64 (R.e), .pointer (some ⟨bp, 0, none⟩), .slice a_b37 (fencesV R.F).length c_b37, .slice a (rs.length) cp, .int .i64 (i), .pointer (some ⟨b41, o42, none⟩), .pointer (some ⟨b41, o42 + 1, none⟩), .string (y_x26.clu), .bool true, .bool true, .slice a_b37 (fencesV R.F).length c_b37, .int .i64 ((((fencesV R.F).length : Nat) : Int)), .slice a_a15 (fencesV P.F).length c_a15, .int .i64 ((((fencesV P.F).length : Nat) : Int)), .bool false, .bool false, .bool false, .slice a_b37 (fencesV R.F).length c_b37, .int .i64 ((((fencesV R.F).length : Nat) : Int)), .slice a_a15 (fencesV P.F).length c_a15, .int .i64 ((((fencesV P.F).length : Nat) : Int)), .int .i64 (((((fencesV P.F).length : Nat) : Int)) + 1), .bool false, .bool false, .bool false, .slice a_b37 (fencesV R.F).length c_b37, .int .i64 ((((fencesV R.F).length : Nat) : Int)), .slice a_a15 (fencesV P.F).length c_a15, .int .i64 ((((fencesV P.F).length : Nat) : Int)), .bool true, .bool true, .pointer (some ⟨n28, 5, none⟩), .bool true, .bool false, .bool false, .bool false, .slice a (rs.length) cp, .int .i64 (i), .pointer (some ⟨b48, o49, none⟩), .pointer (some ⟨b48, o49, none⟩), .string (y_x26.ten), .string (ten), .bool false, .tuple #[.agg #[.string (R.kb.ten), .string (R.kb.clu), .int .i64 (R.kb.epo), .slice a_y (os_y.length) c_y, .int .i64 (R.bad), .bool (R.rose)], .int .i64 (R.e)], .pointer (some ⟨bq, 0, none⟩), .slice a (rs.length) cp, .int .i64 (i), .pointer (some ⟨b55, o56, none⟩), .agg #[.string (y_x26.ten), .string (y_x26.clu), .int .i64 (y_x26.epo), .slice a_x26 (rs_x26.length) c_x26], .tuple #[.agg #[.string (R.kb.ten), .string (R.kb.clu), .int .i64 (R.kb.epo), .slice a_y (os_y.length) c_y, .int .i64 (R.bad), .bool (R.rose)], .int .i64 (R.e)], .agg #[.string (R.kb.ten), .string (R.kb.clu), .int .i64 (R.kb.epo), .slice a_y (os_y.length) c_y, .int .i64 (R.bad), .bool (R.rose)], .int .i64 (R.e), .int .i64 (R.e), .int .i64 (R.e), .bool false, .bool false, .pointer (some ⟨n28, 4, none⟩), .int .i64 (R.bad), .pointer (some ⟨n63, 4, none⟩), .int .i64 (R.bad), .bool false, .bool false, .bool false, .pointer (some ⟨n28, 5, none⟩), .bool true, .pointer (some ⟨n63, 5, none⟩), .bool (R.rose), .bool false, .bool false, .bool false, .pointer (some ⟨n28, 0, none⟩), .agg #[.string (R.kb.ten), .string (R.kb.clu), .int .i64 (R.kb.epo), .slice a_x (os_x.length) c_x], .pointer (some ⟨n63, 0, none⟩), .agg #[.string (R.kb.ten), .string (R.kb.clu), .int .i64 (R.kb.epo), .slice a_y (os_y.length) c_y], .bool true, .bool false, .bool false], rfl⟩
             ·exfalso
              simp at c14_22
           ·exfalso
            exact c14_8 rfl
          ·exfalso
           exact c14_2 rfl
         ·rw [decide_eq_false c12_6]
          refine AWp.condT rfl rfl ?_
          refine AWp.exit ?_
          refine AWp.rowV (l := _) pok ?_
          refine sq.c (v := .int .i64 (i)) rfl rfl rfl rfl ?_
          refine sq.c (v := .int .i64 (i + 1)) rfl rfl (okI (wrap_i64 (by omega) (by omega))) rfl ?_
          refine sq.c (v := .int .i64 (i + 1)) rfl rfl rfl rfl ?_
          refine sq.e ?_
          refine ⟨_, _, rfl, (by omega), i + 1, R.st, Q, G_x, Gq, rfl, hs, hn, hf, hb_bp, hf_x, hg_x, hSp, hb_bq, hb_fq, hb_gq, hSq, okF_x, okG_x, okfq, okgq, (by omega), (by omega), (by rw [show (i + 1).toNat = i.toNat + 1 by omega]; exact hPi2), (hQi.up (by omega)), (by rw [hR]; exact take_other hpr c12_6), getV [undef, undef, undef, undef, (y13 4), undef, undef, undef, .slice a_a15 (fencesV P.F).length c_a15, .pointer (some ⟨n28, 0, none⟩), .int .i64 (R.e), .slice a_b37 (fencesV R.F).length c_b37, (y13 12), (y13 13), undef, undef, undef, undef, undef, undef, undef, undef, undef, undef, undef, undef, undef, undef, undef, undef, undef, undef, .int .i64 (i), .slice a (rs.length) cp, .int .i64 (((rs.length : Nat) : Int)), .bool true, .int .i64 (i), .int .i64 (i + 1), .pointer (some ⟨bp, 0, none⟩), .slice a_a15 (fencesV P.F).length c_a15, .tuple #[.agg #[.string (R.kb.ten), .string (R.kb.clu), .int .i64 (R.kb.epo), .slice a_x (os_x.length) c_x, .int .i64 (R.bad), .bool true], .int .i64 (R.e)], .pointer (some ⟨bp, 0, none⟩), .slice a (rs.length) cp, .int .i64 (i), .pointer (some ⟨b19, o20, none⟩), .agg #[.string (y_x26.ten), .string (y_x26.clu), .int .i64 (y_x26.epo), .slice a_x26 (rs_x26.length) c_x26], .tuple #[.agg #[.string (R.kb.ten), .string (R.kb.clu), .int .i64 (R.kb.epo), .slice a_x (os_x.length) c_x, .int .i64 (R.bad), .bool true], .int .i64 (R.e)], .agg #[.string (R.kb.ten), .string (R.kb.clu), .int .i64 (R.kb.epo), .slice a_x (os_x.length) c_x, .int .i64 (R.bad), .bool true], .int .i64 (R.e), .pointer (some ⟨bp, 0, none⟩), .slice a_b37 (fencesV R.F).length c_b37, .slice a (rs.length) cp, .int .i64 (i), .pointer (some ⟨b41, o42, none⟩), .pointer (some ⟨b41, o42 + 1, none⟩), .string (y_x26.clu), .bool true, .bool true, .slice a_b37 (fencesV R.F).length c_b37, .int .i64 ((((fencesV R.F).length : Nat) : Int)), .slice a_a15 (fencesV P.F).length c_a15, .int .i64 ((((fencesV P.F).length : Nat) : Int)), .bool false, .bool false, .bool false, .slice a_b37 (fencesV R.F).length c_b37, .int .i64 ((((fencesV R.F).length : Nat) : Int)), .slice a_a15 (fencesV P.F).length c_a15, .int .i64 ((((fencesV P.F).length : Nat) : Int)), .int .i64 (((((fencesV P.F).length : Nat) : Int)) + 1), .bool false, .bool false, .bool false, .slice a_b37 (fencesV R.F).length c_b37, .int .i64 ((((fencesV R.F).length : Nat) : Int)), .slice a_a15 (fencesV P.F).length c_a15, .int .i64 ((((fencesV P.F).length : Nat) : Int)), .bool true, .bool true, .pointer (some ⟨n28, 5, none⟩), .bool true, .bool false, .bool false, .bool false, .slice a (rs.length) cp, .int .i64 (i), .pointer (some ⟨b48, o49, none⟩), .pointer (some ⟨b48, o49, none⟩), .string (y_x26.ten), .string (ten), .bool true, (y13 91), (y13 92), (y13 93), (y13 94), (y13 95), (y13 96), (y13 97), (y13 98), (y13 99), (y13 100), (y13 101), (y13 102), (y13 103), (y13 104), (y13 105), (y13 106), (y13 107), (y13 108), (y13 109), (y13 110), (y13 111), (y13 112), (y13 113), (y13 114), (y13 115), (y13 116), (y13 117), (y13 118), (y13 119), (y13 120), (y13 121), (y13 122), (y13 123), (y13 124)], rfl⟩
        ·exfalso
         have q_ := hft.2.2 (by omega)
         rw [cr_x] at q_
         cases q_
       ·rw [decide_eq_false c10_26]
        refine sq.s (wantF (g := 27) (d := 78) rfl rfl rfl) rfl ?_
        refine sq.s (wantF (g := 27) (d := 78) rfl rfl rfl) rfl ?_
        refine sq.s (wantF (g := 27) (d := 78) rfl rfl rfl) rfl ?_
        refine sq.c (v := .bool false) (wantT (g := 21) (d := 72) rfl rfl rfl) rfl rfl rfl ?_
        refine sq.c (v := .bool false) rfl rfl rfl rfl ?_
        refine sq.e ?_
        refine AWp.condF rfl rfl ?_
        refine AWp.skip (AWp.seq (AWp.seq (AWp.rowV (l := _) pok ?_)))
        refine sq.c (v := .slice a (rs.length) cp) rfl rfl rfl rfl ?_
        refine sq.c (v := .int .i64 (i)) rfl rfl rfl rfl ?_
        have i80 : (0 : Int) ≤ (i : Int) := by omega
        obtain ⟨b74, o75, cs_b74, ow_b74, ci_b74, ie79, hb76, hc77, hr78⟩ := IsRow.at (P := Tryd.prog) (t := 22) (e := 31) (k := .i64) (by kernel_rfl) (by kernel_rfl) (hr.keep (.of0 hs)).is i80 hx_x26
        refine sq.c (v := .pointer (some ⟨b74, o75, none⟩)) rfl rfl ie79 rfl ?_
        refine sq.c (v := .pointer (some ⟨b74, o75, none⟩)) rfl rfl (by kernel_rfl) rfl ?_
        refine sq.c (v := .string (y_x26.ten)) rfl rfl (ld1 (P := Tryd.prog) (t := 9) (p := o75 + 0) (v := .string (y_x26.ten)) (by kernel_rfl) (by kernel_rfl) hb76 (hc77 0 _ rfl)) rfl ?_
        refine sq.c (v := .string (ten)) rfl rfl rfl rfl ?_
        refine sq.c (v := .bool (!decide (y_x26.ten = ten))) rfl rfl (neD _ _) rfl ?_
        refine sq.e ?_
        by_cases c12_6 : y_x26.ten = ten
        ·rw [decide_eq_true c12_6]
         refine AWp.condF rfl rfl ?_
         refine AWp.skip (AWp.seq (AWp.rowV (l := _) pok ?_))
         refine sq.c (v := .pointer (some ⟨bq, 0, none⟩)) rfl rfl rfl rfl ?_
         refine sq.c (v := .slice a (rs.length) cp) rfl rfl rfl rfl ?_
         refine sq.c (v := .int .i64 (i)) rfl rfl rfl rfl ?_
         have i87 : (0 : Int) ≤ (i : Int) := by omega
         obtain ⟨b81, o82, cs_b81, ow_b81, ci_b81, ie86, hb83, hc84, hr85⟩ := IsRow.at (P := Tryd.prog) (t := 22) (e := 31) (k := .i64) (by kernel_rfl) (by kernel_rfl) (hr.keep (.of0 hs)).is i87 hx_x26
         refine sq.c (v := .pointer (some ⟨b81, o82, none⟩)) rfl rfl ie86 rfl ?_
         refine sq.c (v := .agg #[.string (y_x26.ten), .string (y_x26.clu), .int .i64 (y_x26.epo), .slice a_x26 (rs_x26.length) c_x26]) rfl rfl (ldR (P := Tryd.prog) (t := 31) (k := 4) (xs := [.string (y_x26.ten), .string (y_x26.clu), .int .i64 (y_x26.epo), .slice a_x26 (rs_x26.length) c_x26]) (by kernel_rfl) (by kernel_rfl) hr85) rfl ?_
         obtain ⟨Ry, hRy⟩ : ∃ R, R = takeP Q y_x26 := ⟨_, rfl⟩
         have hQi2 : PInv (i.toNat + 1) Ry.st := by rw [hRy]; exact hQi.step hsb.2.2
         have hkb : SmallB R.kb := by rw [hR]; exact kb_small hsb
         refine sq.k rfl (CallsF.fn rfl (by kernel_rfl) rfl rfl) (takeApart (⟨hb_bq, hb_fq, hb_gq, okfq, okgq, hSq, ne_fq_gq⟩ : At _ Q _ _ _ _ Gq) y_x26 _ (R_x26.keep (.of0 hs)).is (D_x26.keep (.of0 hs)).is (hld.keep hs) hQi hi60 hsb hpr c12_6 hR hRy) ?_
         rintro _ h88 n89 ⟨w_y, os_y, G_y, rfl, W_y, D_y, hf_y, hg_y, okF_y, okG_y, hS_y⟩ s90 hn2 hf
         obtain ⟨a_y, c_y, rfl⟩ := W_y.slice
         refine sq.w ?_
         have ours_s90 : Ours _ [fq, gq] := .cons hb_fq rfl (.cons hb_gq rfl (.nil _))
         have hSp := hSp.keep (.of s90 ours_s90)
         have W_x := W_x.keep (.of s90 ours_s90)
         have D_x := D_x.keep (.of s90 ours_s90)
         have hb_bp := s90.get2 (e_bp_fq) (e_bp_gq) hb_bp
         have hf_x := s90.get2 (e_fp_fq) (e_fp_gq) hf_x
         have hg_x := s90.get2 (e_gp_fq) (e_gp_gq) hg_x
         have hb_bq := s90.get2 (ne_bq_fq) (ne_bq_gq) hb_bq
         have hb34 := s90.get2 (Ne.symm e_fq_n28) (Ne.symm e_gq_n28) hb34
         have hs := hs.fresh2 z_fq z_gq s90
         have hn := Nat.le_trans hn hn2
         have hSq := hS_y
         refine sq.c (v := .tuple #[.agg #[.string (R.kb.ten), .string (R.kb.clu), .int .i64 (R.kb.epo), .slice a_y (os_y.length) c_y, .int .i64 (R.bad), .bool (R.rose)], .int .i64 (R.e)]) rfl rfl rfl rfl ?_
         refine sq.c (v := .agg #[.string (R.kb.ten), .string (R.kb.clu), .int .i64 (R.kb.epo), .slice a_y (os_y.length) c_y, .int .i64 (R.bad), .bool (R.rose)]) rfl rfl rfl rfl ?_
         refine sq.c (v := .int .i64 (R.e)) rfl rfl rfl rfl ?_
         have e_bp_n89 : Apt bp n89 := hf.ne hb_bp
         have e_fp_n89 : Apt fp n89 := hf.ne hf_x
         have e_gp_n89 : Apt gp n89 := hf.ne hg_x
         have e_bq_n89 : Apt bq n89 := hf.ne hb_bq
         have e_fq_n89 : Apt fq n89 := hf.ne hf_y
         have e_gq_n89 : Apt gq n89 := hf.ne hg_y
         have e_n28_n89 : Apt n28 n89 := hf.ne hb34
         have z_n89 : h.get n89 = none := hf0 _ hn
         refine sq.op rfl rfl (Does.alloc (cs := [.string (⟨#[]⟩), .string (⟨#[]⟩), .int .i64 (0), .slice none (0) (0), .int .i64 (0), .bool false]) hf (z := .agg #[.string (⟨#[]⟩), .string (⟨#[]⟩), .int .i64 (0), .slice none (0) (0), .int .i64 (0), .bool false]) (by kernel_rfl) rfl) ?_
         rintro _ h92 n93 ⟨rfl, hb91⟩ s94 hn2 hf
         refine sq.w ?_
         have hSp := hSp.keep (.of0 s94)
         have W_x := W_x.keep (.of0 s94)
         have D_x := D_x.keep (.of0 s94)
         have hSq := hSq.keep (.of0 s94)
         have W_y := W_y.keep (.of0 s94)
         have D_y := D_y.keep (.of0 s94)
         have hb_bp := s94.sub _ _ hb_bp
         have hf_x := s94.sub _ _ hf_x
         have hg_x := s94.sub _ _ hg_x
         have hb_bq := s94.sub _ _ hb_bq
         have hf_y := s94.sub _ _ hf_y
         have hg_y := s94.sub _ _ hg_y
         have hb34 := s94.sub _ _ hb34
         have hs := hs.trans s94
         have hn := Nat.le_trans hn hn2
         refine sq.op rfl rfl (Does.store (k := 6) (xs := [.string (R.kb.ten), .string (R.kb.clu), .int .i64 (R.kb.epo), .slice a_y (os_y.length) c_y, .int .i64 (R.bad), .bool (R.rose)]) (cs' := [.string (R.kb.ten), .string (R.kb.clu), .int .i64 (R.kb.epo), .slice a_y (os_y.length) c_y, .int .i64 (R.bad), .bool (R.rose)]) hf (by kernel_rfl) rfl rfl rfl hb91 rfl rfl (Nat.le_of_ble_eq_true rfl) rfl) ?_
         rintro _ h96 n97 ⟨rfl, hb95⟩ s98 hn2 hf
         refine sq.w0 ?_
         have hSp := hSp.keep (.own s98 hb91 rfl)
         have W_x := W_x.keep (.own s98 hb91 rfl)
         have D_x := D_x.keep (.own s98 hb91 rfl)
         have hSq := hSq.keep (.own s98 hb91 rfl)
         have W_y := W_y.keep (.own s98 hb91 rfl)
         have D_y := D_y.keep (.own s98 hb91 rfl)
         have hb_bp := s98.get1 (e_bp_n89) hb_bp
         have hf_x := s98.get1 (e_fp_n89) hf_x
         have hg_x := s98.get1 (e_gp_n89) hg_x
         have hb_bq := s98.get1 (e_bq_n89) hb_bq
         have hf_y := s98.get1 (e_fq_n89) hf_y
         have hg_y := s98.get1 (e_gq_n89) hg_y
         have hb34 := s98.get1 (e_n28_n89) hb34
         have hs := hs.fresh z_n89 s98
         have hn := Nat.le_trans hn hn2
         refine sq.c (v := .int .i64 (R.e)) rfl rfl rfl rfl ?_
         refine sq.e (AWp.seq (AWp.rowV (l := _) pok ?_))
         refine sq.c (v := .int .i64 (R.e)) rfl rfl rfl rfl ?_
         refine sq.c (v := .int .i64 (R.e)) rfl rfl rfl rfl ?_
         refine sq.c (v := .bool (!decide (R.e = R.e))) rfl rfl rfl rfl ?_
         refine sq.c (v := .bool (!decide (R.e = R.e))) rfl rfl rfl rfl ?_
         by_cases c14_2 : R.e = R.e
         ·rw [decide_eq_true c14_2]
          refine sq.c (v := .pointer (some ⟨n28, 4, none⟩)) (wantT (g := 3) (d := 103) rfl rfl rfl) rfl (by kernel_rfl) rfl ?_
          refine sq.c (v := .int .i64 (R.bad)) (wantT (g := 3) (d := 103) rfl rfl rfl) rfl (ld1 (P := Tryd.prog) (t := 3) (p := 4) (v := .int .i64 (R.bad)) (by kernel_rfl) (by kernel_rfl) hb34 rfl) rfl ?_
          refine sq.c (v := .pointer (some ⟨n89, 4, none⟩)) (wantT (g := 3) (d := 103) rfl rfl rfl) rfl (by kernel_rfl) rfl ?_
          refine sq.c (v := .int .i64 (R.bad)) (wantT (g := 3) (d := 103) rfl rfl rfl) rfl (ld1 (P := Tryd.prog) (t := 3) (p := 4) (v := .int .i64 (R.bad)) (by kernel_rfl) (by kernel_rfl) hb95 rfl) rfl ?_
          refine sq.c (v := .bool (!decide (R.bad = R.bad))) (wantT (g := 3) (d := 103) rfl rfl rfl) rfl rfl rfl ?_
          refine sq.c (v := .bool (!decide (R.bad = R.bad))) rfl rfl rfl rfl ?_
          refine sq.c (v := .bool (!decide (R.bad = R.bad))) rfl rfl rfl rfl ?_
          by_cases c14_8 : R.bad = R.bad
          ·rw [decide_eq_true c14_8]
           refine sq.c (v := .pointer (some ⟨n28, 5, none⟩)) (wantT (g := 10) (d := 110) rfl rfl rfl) rfl (by kernel_rfl) rfl ?_
           refine sq.c (v := .bool (R.rose)) (wantT (g := 10) (d := 110) rfl rfl rfl) rfl (ld1 (P := Tryd.prog) (t := 4) (p := 5) (v := .bool (R.rose)) (by kernel_rfl) (by kernel_rfl) hb34 rfl) rfl ?_
           refine sq.c (v := .pointer (some ⟨n89, 5, none⟩)) (wantT (g := 10) (d := 110) rfl rfl rfl) rfl (by kernel_rfl) rfl ?_
           refine sq.c (v := .bool (R.rose)) (wantT (g := 10) (d := 110) rfl rfl rfl) rfl (ld1 (P := Tryd.prog) (t := 4) (p := 5) (v := .bool (R.rose)) (by kernel_rfl) (by kernel_rfl) hb95 rfl) rfl ?_
           refine sq.c (v := .bool ((R.rose) != (R.rose))) (wantT (g := 10) (d := 110) rfl rfl rfl) rfl (boolNeq _ _) rfl ?_
           refine sq.c (v := .bool ((R.rose) != (R.rose))) rfl rfl rfl rfl ?_
           refine sq.c (v := .bool ((R.rose) != (R.rose))) rfl rfl rfl rfl ?_
           rcases Bool.eq_false_or_eq_true ((R.rose) != (R.rose)) with c14_15 | c14_15
           ·exfalso
            simp at c14_15
           ·rw [c14_15]
            refine sq.c (v := .pointer (some ⟨n28, 0, none⟩)) (wantT (g := 17) (d := 117) rfl rfl rfl) rfl (by kernel_rfl) rfl ?_
            refine sq.c (v := .agg #[.string (R.kb.ten), .string (R.kb.clu), .int .i64 (R.kb.epo), .slice a_x (os_x.length) c_x]) (wantT (g := 17) (d := 117) rfl rfl rfl) rfl (ldA (P := Tryd.prog) (t := 31) (p := 0) (k := 4) (xs := [.string (R.kb.ten), .string (R.kb.clu), .int .i64 (R.kb.epo), .slice a_x (os_x.length) c_x]) (by kernel_rfl) (by kernel_rfl) hb34 rfl (Nat.le_of_ble_eq_true rfl)) rfl ?_
            refine sq.c (v := .pointer (some ⟨n89, 0, none⟩)) (wantT (g := 17) (d := 117) rfl rfl rfl) rfl (by kernel_rfl) rfl ?_
            refine sq.c (v := .agg #[.string (R.kb.ten), .string (R.kb.clu), .int .i64 (R.kb.epo), .slice a_y (os_y.length) c_y]) (wantT (g := 17) (d := 117) rfl rfl rfl) rfl (ldA (P := Tryd.prog) (t := 31) (p := 0) (k := 4) (xs := [.string (R.kb.ten), .string (R.kb.clu), .int .i64 (R.kb.epo), .slice a_y (os_y.length) c_y]) (by kernel_rfl) (by kernel_rfl) hb95 rfl (Nat.le_of_ble_eq_true rfl)) rfl ?_
            refine sq.t (v := .bool (decide (R.kb.ten = R.kb.ten ∧ R.kb.clu = R.kb.clu ∧ (R.kb.epo : Int) = R.kb.epo ∧ R.kb.ser = R.kb.ser))) (wantT (g := 17) (d := 117) rfl rfl rfl) (CallsF.fn rfl (by kernel_rfl) rfl rfl) (fun hf => sameBat_spec R.kb.ten R.kb.clu R.kb.ten R.kb.clu R.kb.epo R.kb.epo _ _ R.kb.ser R.kb.ser W_x.is D_x.is W_y.is D_y.is (by rw [D_x.1]; exact Nat.lt_of_le_of_lt hkb.2.2.1 (by decide)) (fun s hs9 => ⟨Nat.lt_of_le_of_lt (hkb.2.2.2 s hs9).1 (by decide), Nat.lt_trans (hkb.2.2.2 s hs9).2.1 (by decide)⟩)) hf rfl ?_
            intro n99 hn2 hf
            have hn := Nat.le_trans hn hn2
            rcases Bool.eq_false_or_eq_true (decide (R.kb.ten = R.kb.ten ∧ R.kb.clu = R.kb.clu ∧ (R.kb.epo : Int) = R.kb.epo ∧ R.kb.ser = R.kb.ser)) with c14_22 | c14_22
            ·rw [c14_22]
             refine sq.c (v := .bool false) (wantT (g := 17) (d := 117) rfl rfl rfl) rfl rfl rfl ?_
             refine sq.c (v := .bool false) rfl rfl rfl rfl ?_
             refine sq.e ?_
             refine AWp.condF rfl rfl ?_
             refine AWp.skip (AWp.rowV (l := _) pok ?_)
             refine sq.c (v := .int .i64 (i)) rfl rfl rfl rfl ?_
             refine sq.c (v := .int .i64 (i + 1)) rfl rfl (okI (wrap_i64 (by omega) (by omega))) rfl ?_
             refine sq.c (v := .int .i64 (i + 1)) rfl rfl rfl rfl ?_
             refine sq.e ?_
             refine ⟨_, _, rfl, (by omega), i + 1, R.st, Ry.st, G_x, G_y, rfl, hs, hn, hf, hb_bp, hf_x, hg_x, hSp, hb_bq, hf_y, hg_y, hSq, okF_x, okG_x, okF_y, okG_y, (by omega), (by omega), (by rw [show (i + 1).toNat = i.toNat + 1 by omega]; exact hPi2), (by rw [show (i + 1).toNat = i.toNat + 1 by omega]; exact hQi2), (by rw [hR, hRy]; exact (take_apart hpr c12_6).2.2.2.2), getV [undef, undef, undef, undef, (y13 4), undef, undef, undef, .slice a_a15 (fencesV P.F).length c_a15, .pointer (some ⟨n28, 0, none⟩), .int .i64 (R.e), .slice a_b37 (fencesV R.F).length c_b37, .pointer (some ⟨n89, 0, none⟩), .int .i64 (R.e), undef, undef, undef, undef, undef, undef, undef, undef, undef, undef, undef, undef, undef, undef, undef, undef, undef, undef, .int .i64 (i), .slice a (rs.length) cp, .int .i64 (((rs.length : Nat) : Int)), .bool true, .int .i64 (i), .int .i64 (i + 1), .pointer (some ⟨bp, 0, none⟩), .slice a_a15 (fencesV P.F).length c_a15, .tuple #[.agg #[.string (R.kb.ten), .string (R.kb.clu), .int .i64 (R.kb.epo), .slice a_x (os_x.length) c_x, .int .i64 (R.bad), .bool (R.rose)], .int .i64 (R.e)], .pointer (some ⟨bp, 0, none⟩), .slice a (rs.length) cp, .int .i64 (i), .pointer (some ⟨b19, o20, none⟩), .agg #[.string (y_x26.ten), .string (y_x26.clu), .int .i64 (y_x26.epo), .slice a_x26 (rs_x26.length) c_x26], .tuple #[.agg #[.string (R.kb.ten), .string (R.kb.clu), .int .i64 (R.kb.epo), .slice a_x (os_x.length) c_x, .int .i64 (R.bad), .bool (R.rose)], .int .i64 (R.e)], .agg #[.string (R.kb.ten), .string (R.kb.clu), .int .i64 (R.kb.epo), .slice a_x (os_x.length) c_x, .int .i64 (R.bad), .bool (R.rose)], .int .i64 (R.e), .pointer (some ⟨bp, 0, none⟩), .slice a_b37 (fencesV R.F).length c_b37, .slice a (rs.length) cp, .int .i64 (i), .pointer (some ⟨b41, o42, none⟩), .pointer (some ⟨b41, o42 + 1, none⟩), .string (y_x26.clu), .bool true, .bool true, .slice a_b37 (fencesV R.F).length c_b37, .int .i64 ((((fencesV R.F).length : Nat) : Int)), .slice a_a15 (fencesV P.F).length c_a15, .int .i64 ((((fencesV P.F).length : Nat) : Int)), .bool false, .bool false, .bool false, .slice a_b37 (fencesV R.F).length c_b37, .int .i64 ((((fencesV R.F).length : Nat) : Int)), .slice a_a15 (fencesV P.F).length c_a15, .int .i64 ((((fencesV P.F).length : Nat) : Int)), .int .i64 (((((fencesV P.F).length : Nat) : Int)) + 1), .bool false, .bool false, .bool false, .slice a_b37 (fencesV R.F).length c_b37, .int .i64 ((((fencesV R.F).length : Nat) : Int)), .slice a_a15 (fencesV P.F).length c_a15, .int .i64 ((((fencesV P.F).length : Nat) : Int)), .bool false, .bool false, undef, undef, undef, .bool false, .bool false, .slice a (rs.length) cp, .int .i64 (i), .pointer (some ⟨b74, o75, none⟩), .pointer (some ⟨b74, o75, none⟩), .string (y_x26.ten), .string (ten), .bool false, .tuple #[.agg #[.string (R.kb.ten), .string (R.kb.clu), .int .i64 (R.kb.epo), .slice a_y (os_y.length) c_y, .int .i64 (R.bad), .bool (R.rose)], .int .i64 (R.e)], .pointer (some ⟨bq, 0, none⟩), .slice a (rs.length) cp, .int .i64 (i), .pointer (some ⟨b81, o82, none⟩), .agg #[.string (y_x26.ten), .string (y_x26.clu), .int .i64 (y_x26.epo), .slice a_x26 (rs_x26.length) c_x26], .tuple #[.agg #[.string (R.kb.ten), .string (R.kb.clu), .int .i64 (R.kb.epo), .slice a_y (os_y.length) c_y, .int .i64 (R.bad), .bool (R.rose)], .int .i64 (R.e)], .agg #[.string (R.kb.ten), .string (R.kb.clu), .int .i64 (R.kb.epo), .slice a_y (os_y.length) c_y, .int .i64 (R.bad), .bool (R.rose)], .int .i64 (R.e), .int .i64 (R.e), .int .i64 (R.e), .bool false, .bool false, .pointer (some ⟨n28, 4, none⟩), .int .i64 (R.bad), .pointer (some ⟨n89, 4, none⟩), .int .i64 (R.bad), .bool false, .bool false, .bool false, .pointer (some ⟨n28, 5, none⟩), .bool (R.rose), .pointer (some ⟨n89, 5, none⟩), .bool (R.rose), .bool false, .bool false, .bool false, .pointer (some ⟨n28, 0, none⟩), .agg #[.string (R.kb.ten), .string (R.kb.clu), .int .i64 (R.kb.epo), .slice a_x (os_x.length) c_x], .pointer (some ⟨n89, 0, none⟩), .agg #[.string (R.kb.ten), .string (R.kb.clu), .int .i64 (R.kb.epo), .slice a_y (os_y.length) c_y], .bool true, .bool false, .bool false], rfl⟩
            ·exfalso
             simp at c14_22
          ·exfalso
           exact c14_8 rfl
         ·exfalso
          exact c14_2 rfl
        ·rw [decide_eq_false c12_6]
         refine AWp.condT rfl rfl ?_
         refine AWp.exit ?_
         refine AWp.rowV (l := _) pok ?_
         refine sq.c (v := .int .i64 (i)) rfl rfl rfl rfl ?_
         refine sq.c (v := .int .i64 (i + 1)) rfl rfl (okI (wrap_i64 (by omega) (by omega))) rfl ?_
         refine sq.c (v := .int .i64 (i + 1)) rfl rfl rfl rfl ?_
         refine sq.e ?_
         refine ⟨_, _, rfl, (by omega), i + 1, R.st, Q, G_x, Gq, rfl, hs, hn, hf, hb_bp, hf_x, hg_x, hSp, hb_bq, hb_fq, hb_gq, hSq, okF_x, okG_x, okfq, okgq, (by omega), (by omega), (by rw [show (i + 1).toNat = i.toNat + 1 by omega]; exact hPi2), (hQi.up (by omega)), (by rw [hR]; exact take_other hpr c12_6), getV [undef, undef, undef, undef, (y13 4), undef, undef, undef, .slice a_a15 (fencesV P.F).length c_a15, .pointer (some ⟨n28, 0, none⟩), .int .i64 (R.e), .slice a_b37 (fencesV R.F).length c_b37, (y13 12), (y13 13), undef, undef, undef, undef, undef, undef, undef, undef, undef, undef, undef, undef, undef, undef, undef, undef, undef, undef, .int .i64 (i), .slice a (rs.length) cp, .int .i64 (((rs.length : Nat) : Int)), .bool true, .int .i64 (i), .int .i64 (i + 1), .pointer (some ⟨bp, 0, none⟩), .slice a_a15 (fencesV P.F).length c_a15, .tuple #[.agg #[.string (R.kb.ten), .string (R.kb.clu), .int .i64 (R.kb.epo), .slice a_x (os_x.length) c_x, .int .i64 (R.bad), .bool (R.rose)], .int .i64 (R.e)], .pointer (some ⟨bp, 0, none⟩), .slice a (rs.length) cp, .int .i64 (i), .pointer (some ⟨b19, o20, none⟩), .agg #[.string (y_x26.ten), .string (y_x26.clu), .int .i64 (y_x26.epo), .slice a_x26 (rs_x26.length) c_x26], .tuple #[.agg #[.string (R.kb.ten), .string (R.kb.clu), .int .i64 (R.kb.epo), .slice a_x (os_x.length) c_x, .int .i64 (R.bad), .bool (R.rose)], .int .i64 (R.e)], .agg #[.string (R.kb.ten), .string (R.kb.clu), .int .i64 (R.kb.epo), .slice a_x (os_x.length) c_x, .int .i64 (R.bad), .bool (R.rose)], .int .i64 (R.e), .pointer (some ⟨bp, 0, none⟩), .slice a_b37 (fencesV R.F).length c_b37, .slice a (rs.length) cp, .int .i64 (i), .pointer (some ⟨b41, o42, none⟩), .pointer (some ⟨b41, o42 + 1, none⟩), .string (y_x26.clu), .bool true, .bool true, .slice a_b37 (fencesV R.F).length c_b37, .int .i64 ((((fencesV R.F).length : Nat) : Int)), .slice a_a15 (fencesV P.F).length c_a15, .int .i64 ((((fencesV P.F).length : Nat) : Int)), .bool false, .bool false, .bool false, .slice a_b37 (fencesV R.F).length c_b37, .int .i64 ((((fencesV R.F).length : Nat) : Int)), .slice a_a15 (fencesV P.F).length c_a15, .int .i64 ((((fencesV P.F).length : Nat) : Int)), .int .i64 (((((fencesV P.F).length : Nat) : Int)) + 1), .bool false, .bool false, .bool false, .slice a_b37 (fencesV R.F).length c_b37, .int .i64 ((((fencesV R.F).length : Nat) : Int)), .slice a_a15 (fencesV P.F).length c_a15, .int .i64 ((((fencesV P.F).length : Nat) : Int)), .bool false, .bool false, undef, undef, undef, .bool false, .bool false, .slice a (rs.length) cp, .int .i64 (i), .pointer (some ⟨b74, o75, none⟩), .pointer (some ⟨b74, o75, none⟩), .string (y_x26.ten), .string (ten), .bool true, (y13 91), (y13 92), (y13 93), (y13 94), (y13 95), (y13 96), (y13 97), (y13 98), (y13 99), (y13 100), (y13 101), (y13 102), (y13 103), (y13 104), (y13 105), (y13 106), (y13 107), (y13 108), (y13 109), (y13 110), (y13 111), (y13 112), (y13 113), (y13 114), (y13 115), (y13 116), (y13 117), (y13 118), (y13 119), (y13 120), (y13 121), (y13 122), (y13 123), (y13 124)], rfl⟩
     ·exfalso
      have q_ := hft.1 c10_5
      omega
    ·rw [decide_eq_false c10_5]
     refine sq.s (wantF (g := 6) (d := 57) rfl rfl rfl) rfl ?_
     refine sq.s (wantF (g := 6) (d := 57) rfl rfl rfl) rfl ?_
     refine sq.s (wantF (g := 6) (d := 57) rfl rfl rfl) rfl ?_
     refine sq.s (wantF (g := 6) (d := 57) rfl rfl rfl) rfl ?_
     refine sq.s (wantF (g := 6) (d := 57) rfl rfl rfl) rfl ?_
     refine sq.c (v := .bool false) rfl rfl rfl rfl ?_
     refine sq.c (v := .bool false) rfl rfl rfl rfl ?_
     refine sq.c (v := .slice a_b37 (fencesV R.F).length c_b37) (wantT (g := 13) (d := 64) rfl rfl rfl) rfl rfl rfl ?_
     refine sq.c (v := .int .i64 ((((fencesV R.F).length : Nat) : Int))) (wantT (g := 13) (d := 64) rfl rfl rfl) rfl (by kernel_rfl) rfl ?_
     refine sq.c (v := .slice a_a15 (fencesV P.F).length c_a15) (wantT (g := 13) (d := 64) rfl rfl rfl) rfl rfl rfl ?_
     refine sq.c (v := .int .i64 ((((fencesV P.F).length : Nat) : Int))) (wantT (g := 13) (d := 64) rfl rfl rfl) rfl (by kernel_rfl) rfl ?_
     refine sq.c (v := .int .i64 (((((fencesV P.F).length : Nat) : Int)) + 1)) (wantT (g := 13) (d := 64) rfl rfl rfl) rfl (okI (wrap_i64 (by omega) (by omega))) rfl ?_
     refine sq.c (v := .bool (decide ((((((fencesV P.F).length : Nat) : Int)) + 1) < ((((fencesV R.F).length : Nat) : Int))))) (wantT (g := 13) (d := 64) rfl rfl rfl) rfl rfl rfl ?_
     refine sq.c (v := .bool (decide ((((((fencesV P.F).length : Nat) : Int)) + 1) < ((((fencesV R.F).length : Nat) : Int))))) rfl rfl rfl rfl ?_
     refine sq.c (v := .bool (decide ((((((fencesV P.F).length : Nat) : Int)) + 1) < ((((fencesV R.F).length : Nat) : Int))))) rfl rfl rfl rfl ?_
     by_cases c10_19 : (((((fencesV P.F).length : Nat) : Int)) + 1) < ((((fencesV R.F).length : Nat) : Int))
     ·exfalso
      have q_ := hft.2.1
      omega
     ·rw [decide_eq_false c10_19]
      refine sq.c (v := .slice a_b37 (fencesV R.F).length c_b37) (wantT (g := 21) (d := 72) rfl rfl rfl) rfl rfl rfl ?_
      refine sq.c (v := .int .i64 ((((fencesV R.F).length : Nat) : Int))) (wantT (g := 21) (d := 72) rfl rfl rfl) rfl (by kernel_rfl) rfl ?_
      refine sq.c (v := .slice a_a15 (fencesV P.F).length c_a15) (wantT (g := 21) (d := 72) rfl rfl rfl) rfl rfl rfl ?_
      refine sq.c (v := .int .i64 ((((fencesV P.F).length : Nat) : Int))) (wantT (g := 21) (d := 72) rfl rfl rfl) rfl (by kernel_rfl) rfl ?_
      refine sq.c (v := .bool (decide (((((fencesV P.F).length : Nat) : Int)) < ((((fencesV R.F).length : Nat) : Int))))) (wantT (g := 21) (d := 72) rfl rfl rfl) rfl rfl rfl ?_
      refine sq.c (v := .bool (decide (((((fencesV P.F).length : Nat) : Int)) < ((((fencesV R.F).length : Nat) : Int))))) (wantT (g := 21) (d := 72) rfl rfl rfl) rfl rfl rfl ?_
      by_cases c10_26 : ((((fencesV P.F).length : Nat) : Int)) < ((((fencesV R.F).length : Nat) : Int))
      ·rw [decide_eq_true c10_26]
       refine sq.c (v := .pointer (some ⟨n28, 5, none⟩)) (wantT (g := 27) (d := 78) rfl rfl rfl) rfl (by kernel_rfl) rfl ?_
       refine sq.c (v := .bool (R.rose)) (wantT (g := 27) (d := 78) rfl rfl rfl) rfl (ld1 (P := Tryd.prog) (t := 4) (p := 5) (v := .bool (R.rose)) (by kernel_rfl) (by kernel_rfl) hb34 rfl) rfl ?_
       rcases Bool.eq_false_or_eq_true (R.rose) with cr_x | cr_x
       ·rw [cr_x]
        rw [cr_x] at hb34
        refine sq.c (v := .bool false) (wantT (g := 27) (d := 78) rfl rfl rfl) rfl rfl rfl ?_
        refine sq.c (v := .bool false) (wantT (g := 21) (d := 72) rfl rfl rfl) rfl rfl rfl ?_
        refine sq.c (v := .bool false) rfl rfl rfl rfl ?_
        refine sq.e ?_
        refine AWp.condF rfl rfl ?_
        refine AWp.skip (AWp.seq (AWp.seq (AWp.rowV (l := _) pok ?_)))
        refine sq.c (v := .slice a (rs.length) cp) rfl rfl rfl rfl ?_
        refine sq.c (v := .int .i64 (i)) rfl rfl rfl rfl ?_
        have i106 : (0 : Int) ≤ (i : Int) := by omega
        obtain ⟨b100, o101, cs_b100, ow_b100, ci_b100, ie105, hb102, hc103, hr104⟩ := IsRow.at (P := Tryd.prog) (t := 22) (e := 31) (k := .i64) (by kernel_rfl) (by kernel_rfl) (hr.keep (.of0 hs)).is i106 hx_x26
        refine sq.c (v := .pointer (some ⟨b100, o101, none⟩)) rfl rfl ie105 rfl ?_
        refine sq.c (v := .pointer (some ⟨b100, o101, none⟩)) rfl rfl (by kernel_rfl) rfl ?_
        refine sq.c (v := .string (y_x26.ten)) rfl rfl (ld1 (P := Tryd.prog) (t := 9) (p := o101 + 0) (v := .string (y_x26.ten)) (by kernel_rfl) (by kernel_rfl) hb102 (hc103 0 _ rfl)) rfl ?_
        refine sq.c (v := .string (ten)) rfl rfl rfl rfl ?_
        refine sq.c (v := .bool (!decide (y_x26.ten = ten))) rfl rfl (neD _ _) rfl ?_
        refine sq.e ?_
        by_cases c12_6 : y_x26.ten = ten
        ·rw [decide_eq_true c12_6]
         refine AWp.condF rfl rfl ?_
         refine AWp.skip (AWp.seq (AWp.rowV (l := _) pok ?_))
         refine sq.c (v := .pointer (some ⟨bq, 0, none⟩)) rfl rfl rfl rfl ?_
         refine sq.c (v := .slice a (rs.length) cp) rfl rfl rfl rfl ?_
         refine sq.c (v := .int .i64 (i)) rfl rfl rfl rfl ?_
         have i113 : (0 : Int) ≤ (i : Int) := by omega
         obtain ⟨b107, o108, cs_b107, ow_b107, ci_b107, ie112, hb109, hc110, hr111⟩ := IsRow.at (P := Tryd.prog) (t := 22) (e := 31) (k := .i64) (by kernel_rfl) (by kernel_rfl) (hr.keep (.of0 hs)).is i113 hx_x26
         refine sq.c (v := .pointer (some ⟨b107, o108, none⟩)) rfl rfl ie112 rfl ?_
         refine sq.c (v := .agg #[.string (y_x26.ten), .string (y_x26.clu), .int .i64 (y_x26.epo), .slice a_x26 (rs_x26.length) c_x26]) rfl rfl (ldR (P := Tryd.prog) (t := 31) (k := 4) (xs := [.string (y_x26.ten), .string (y_x26.clu), .int .i64 (y_x26.epo), .slice a_x26 (rs_x26.length) c_x26]) (by kernel_rfl) (by kernel_rfl) hr111) rfl ?_
         obtain ⟨Ry, hRy⟩ : ∃ R, R = takeP Q y_x26 := ⟨_, rfl⟩
         have hQi2 : PInv (i.toNat + 1) Ry.st := by rw [hRy]; exact hQi.step hsb.2.2
         have hkb : SmallB R.kb := by rw [hR]; exact kb_small hsb
         refine sq.k rfl (CallsF.fn rfl (by kernel_rfl) rfl rfl) (takeApart (⟨hb_bq, hb_fq, hb_gq, okfq, okgq, hSq, ne_fq_gq⟩ : At _ Q _ _ _ _ Gq) y_x26 _ (R_x26.keep (.of0 hs)).is (D_x26.keep (.of0 hs)).is (hld.keep hs) hQi hi60 hsb hpr c12_6 hR hRy) ?_
         rintro _ h114 n115 ⟨w_y, os_y, G_y, rfl, W_y, D_y, hf_y, hg_y, okF_y, okG_y, hS_y⟩ s116 hn2 hf
         obtain ⟨a_y, c_y, rfl⟩ := W_y.slice
         refine sq.w ?_
         have ours_s116 : Ours _ [fq, gq] := .cons hb_fq rfl (.cons hb_gq rfl (.nil _))
         have hSp := hSp.keep (.of s116 ours_s116)
         have W_x := W_x.keep (.of s116 ours_s116)
         have D_x := D_x.keep (.of s116 ours_s116)
         have hb_bp := s116.get2 (e_bp_fq) (e_bp_gq) hb_bp
         have hf_x := s116.get2 (e_fp_fq) (e_fp_gq) hf_x
         have hg_x := s116.get2 (e_gp_fq) (e_gp_gq) hg_x
         have hb_bq := s116.get2 (ne_bq_fq) (ne_bq_gq) hb_bq
         have hb34 := s116.get2 (Ne.symm e_fq_n28) (Ne.symm e_gq_n28) hb34
         have hs := hs.fresh2 z_fq z_gq s116
         have hn := Nat.le_trans hn hn2
         have hSq := hS_y
         refine sq.c (v := .tuple #[.agg #[.string (R.kb.ten), .string (R.kb.clu), .int .i64 (R.kb.epo), .slice a_y (os_y.length) c_y, .int .i64 (R.bad), .bool (R.rose)], .int .i64 (R.e)]) rfl rfl rfl rfl ?_
         refine sq.c (v := .agg #[.string (R.kb.ten), .string (R.kb.clu), .int .i64 (R.kb.epo), .slice a_y (os_y.length) c_y, .int .i64 (R.bad), .bool (R.rose)]) rfl rfl rfl rfl ?_
         refine sq.c (v := .int .i64 (R.e)) rfl rfl rfl rfl ?_
         have e_bp_n115 : Apt bp n115 := hf.ne hb_bp
         have e_fp_n115 : Apt fp n115 := hf.ne hf_x
         have e_gp_n115 : Apt gp n115 := hf.ne hg_x
         have e_bq_n115 : Apt bq n115 := hf.ne hb_bq
         have e_fq_n115 : Apt fq n115 := hf.ne hf_y
         have e_gq_n115 : Apt gq n115 := hf.ne hg_y
         have e_n28_n115 : Apt n28 n115 := hf.ne hb34
         have z_n115 : h.get n115 = none := hf0 _ hn
         refine sq.op rfl rfl (Does.alloc (cs := [.string (⟨#[]⟩), .string (⟨#[]⟩), .int .i64 (0), .slice none (0) (0), .int .i64 (0), .bool false]) hf (z := .agg #[.string (⟨#[]⟩), .string (⟨#[]⟩), .int .i64 (0), .slice none (0) (0), .int .i64 (0), .bool false]) (by kernel_rfl) rfl) ?_
         rintro _ h118 n119 ⟨rfl, hb117⟩ s120 hn2 hf
         refine sq.w ?_
         have hSp := hSp.keep (.of0 s120)
         have W_x := W_x.keep (.of0 s120)
         have D_x := D_x.keep (.of0 s120)
         have hSq := hSq.keep (.of0 s120)
         have W_y := W_y.keep (.of0 s120)
         have D_y := D_y.keep (.of0 s120)
         have hb_bp := s120.sub _ _ hb_bp
         have hf_x := s120.sub _ _ hf_x
         have hg_x := s120.sub _ _ hg_x
         have hb_bq := s120.sub _ _ hb_bq
         have hf_y := s120.sub _ _ hf_y
         have hg_y := s120.sub _ _ hg_y
         have hb34 := s120.sub _ _ hb34
         have hs := hs.trans s120
         have hn := Nat.le_trans hn hn2
         refine sq.op rfl rfl (Does.store (k := 6) (xs := [.string (R.kb.ten), .string (R.kb.clu), .int .i64 (R.kb.epo), .slice a_y (os_y.length) c_y, .int .i64 (R.bad), .bool (R.rose)]) (cs' := [.string (R.kb.ten), .string (R.kb.clu), .int .i64 (R.kb.epo), .slice a_y (os_y.length) c_y, .int .i64 (R.bad), .bool (R.rose)]) hf (by kernel_rfl) rfl rfl rfl hb117 rfl rfl (Nat.le_of_ble_eq_true rfl) rfl) ?_
         rintro _ h122 n123 ⟨rfl, hb121⟩ s124 hn2 hf
         refine sq.w0 ?_
         have hSp := hSp.keep (.own s124 hb117 rfl)
         have W_x := W_x.keep (.own s124 hb117 rfl)
         have D_x := D_x.keep (.own s124 hb117 rfl)
         have hSq := hSq.keep (.own s124 hb117 rfl)
         have W_y := W_y.keep (.own s124 hb117 rfl)
         have D_y := D_y.keep (.own s124 hb117 rfl)
         have hb_bp := s124.get1 (e_bp_n115) hb_bp
         have hf_x := s124.get1 (e_fp_n115) hf_x
         have hg_x := s124.get1 (e_gp_n115) hg_x
         have hb_bq := s124.get1 (e_bq_n115) hb_bq
         have hf_y := s124.get1 (e_fq_n115) hf_y
         have hg_y := s124.get1 (e_gq_n115) hg_y
         have hb34 := s124.get1 (e_n28_n115) hb34
         have hs := hs.fresh z_n115 s124
         have hn := Nat.le_trans hn hn2
         refine sq.c (v := .int .i64 (R.e)) rfl rfl rfl rfl ?_
         refine sq.e (AWp.seq (AWp.rowV (l := _) pok ?_))
         refine sq.c (v := .int .i64 (R.e)) rfl rfl rfl rfl ?_
         refine sq.c (v := .int .i64 (R.e)) rfl rfl rfl rfl ?_
         refine sq.c (v := .bool (!decide (R.e = R.e))) rfl rfl rfl rfl ?_
         refine sq.c (v := .bool (!decide (R.e = R.e))) rfl rfl rfl rfl ?_
         by_cases c14_2 : R.e = R.e
         ·rw [decide_eq_true c14_2]
          refine sq.c (v := .pointer (some ⟨n28, 4, none⟩)) (wantT (g := 3) (d := 103) rfl rfl rfl) rfl (by kernel_rfl) rfl ?_
          refine sq.c (v := .int .i64 (R.bad)) (wantT (g := 3) (d := 103) rfl rfl rfl) rfl (ld1 (P := Tryd.prog) (t := 3) (p := 4) (v := .int .i64 (R.bad)) (by kernel_rfl) (by kernel_rfl) hb34 rfl) rfl ?_
          refine sq.c (v := .pointer (some ⟨n115, 4, none⟩)) (wantT (g := 3) (d := 103) rfl rfl rfl) rfl (by kernel_rfl) rfl ?_
          refine sq.c (v := .int .i64 (R.bad)) (wantT (g := 3) (d := 103) rfl rfl rfl) rfl (ld1 (P := Tryd.prog) (t := 3) (p := 4) (v := .int .i64 (R.bad)) (by kernel_rfl) (by kernel_rfl) hb121 rfl) rfl ?_
          refine sq.c (v := .bool (!decide (R.bad = R.bad))) (wantT (g := 3) (d := 103) rfl rfl rfl) rfl rfl rfl ?_
          refine sq.c (v := .bool (!decide (R.bad = R.bad))) rfl rfl rfl rfl ?_
          refine sq.c (v := .bool (!decide (R.bad = R.bad))) rfl rfl rfl rfl ?_
          by_cases c14_8 : R.bad = R.bad
          ·rw [decide_eq_true c14_8]
           refine sq.c (v := .pointer (some ⟨n28, 5, none⟩)) (wantT (g := 10) (d := 110) rfl rfl rfl) rfl (by kernel_rfl) rfl ?_
           refine sq.c (v := .bool true) (wantT (g := 10) (d := 110) rfl rfl rfl) rfl (ld1 (P := Tryd.prog) (t := 4) (p := 5) (v := .bool true) (by kernel_rfl) (by kernel_rfl) hb34 rfl) rfl ?_
           refine sq.c (v := .pointer (some ⟨n115, 5, none⟩)) (wantT (g := 10) (d := 110) rfl rfl rfl) rfl (by kernel_rfl) rfl ?_
           refine sq.c (v := .bool (R.rose)) (wantT (g := 10) (d := 110) rfl rfl rfl) rfl (ld1 (P := Tryd.prog) (t := 4) (p := 5) (v := .bool (R.rose)) (by kernel_rfl) (by kernel_rfl) hb121 rfl) rfl ?_
           refine sq.c (v := .bool (true != (R.rose))) (wantT (g := 10) (d := 110) rfl rfl rfl) rfl (boolNeq _ _) rfl ?_
           refine sq.c (v := .bool (true != (R.rose))) rfl rfl rfl rfl ?_
           refine sq.c (v := .bool (true != (R.rose))) rfl rfl rfl rfl ?_
           rcases Bool.eq_false_or_eq_true (true != (R.rose)) with c14_15 | c14_15
           ·exfalso
            rw [cr_x] at c14_15
            exact absurd c14_15 (by decide)
           ·rw [c14_15]
            refine sq.c (v := .pointer (some ⟨n28, 0, none⟩)) (wantT (g := 17) (d := 117) rfl rfl rfl) rfl (by kernel_rfl) rfl ?_
            refine sq.c (v := .agg #[.string (R.kb.ten), .string (R.kb.clu), .int .i64 (R.kb.epo), .slice a_x (os_x.length) c_x]) (wantT (g := 17) (d := 117) rfl rfl rfl) rfl (ldA (P := Tryd.prog) (t := 31) (p := 0) (k := 4) (xs := [.string (R.kb.ten), .string (R.kb.clu), .int .i64 (R.kb.epo), .slice a_x (os_x.length) c_x]) (by kernel_rfl) (by kernel_rfl) hb34 rfl (Nat.le_of_ble_eq_true rfl)) rfl ?_
            refine sq.c (v := .pointer (some ⟨n115, 0, none⟩)) (wantT (g := 17) (d := 117) rfl rfl rfl) rfl (by kernel_rfl) rfl ?_
            refine sq.c (v := .agg #[.string (R.kb.ten), .string (R.kb.clu), .int .i64 (R.kb.epo), .slice a_y (os_y.length) c_y]) (wantT (g := 17) (d := 117) rfl rfl rfl) rfl (ldA (P := Tryd.prog) (t := 31) (p := 0) (k := 4) (xs := [.string (R.kb.ten), .string (R.kb.clu), .int .i64 (R.kb.epo), .slice a_y (os_y.length) c_y]) (by kernel_rfl) (by kernel_rfl) hb121 rfl (Nat.le_of_ble_eq_true rfl)) rfl ?_
            refine sq.t (v := .bool (decide (R.kb.ten = R.kb.ten ∧ R.kb.clu = R.kb.clu ∧ (R.kb.epo : Int) = R.kb.epo ∧ R.kb.ser = R.kb.ser))) (wantT (g := 17) (d := 117) rfl rfl rfl) (CallsF.fn rfl (by kernel_rfl) rfl rfl) (fun hf => sameBat_spec R.kb.ten R.kb.clu R.kb.ten R.kb.clu R.kb.epo R.kb.epo _ _ R.kb.ser R.kb.ser W_x.is D_x.is W_y.is D_y.is (by rw [D_x.1]; exact Nat.lt_of_le_of_lt hkb.2.2.1 (by decide)) (fun s hs9 => ⟨Nat.lt_of_le_of_lt (hkb.2.2.2 s hs9).1 (by decide), Nat.lt_trans (hkb.2.2.2 s hs9).2.1 (by decide)⟩)) hf rfl ?_
            intro n125 hn2 hf
            have hn := Nat.le_trans hn hn2
            rcases Bool.eq_false_or_eq_true (decide (R.kb.ten = R.kb.ten ∧ R.kb.clu = R.kb.clu ∧ (R.kb.epo : Int) = R.kb.epo ∧ R.kb.ser = R.kb.ser)) with c14_22 | c14_22
            ·rw [c14_22]
             refine sq.c (v := .bool false) (wantT (g := 17) (d := 117) rfl rfl rfl) rfl rfl rfl ?_
             refine sq.c (v := .bool false) rfl rfl rfl rfl ?_
             refine sq.e ?_
             refine AWp.condF rfl rfl ?_
             refine AWp.skip (AWp.rowV (l := _) pok ?_)
             refine sq.c (v := .int .i64 (i)) rfl rfl rfl rfl ?_
             refine sq.c (v := .int .i64 (i + 1)) rfl rfl (okI (wrap_i64 (by omega) (by omega))) rfl ?_
             refine sq.c (v := .int .i64 (i + 1)) rfl rfl rfl rfl ?_
             refine sq.e ?_
             refine ⟨_, _, rfl, (by omega), i + 1, R.st, Ry.st, G_x, G_y, rfl, hs, hn, hf, hb_bp, hf_x, hg_x, hSp, hb_bq, hf_y, hg_y, hSq, okF_x, okG_x, okF_y, okG_y, (by omega), (by omega), (by rw [show (i + 1).toNat = i.toNat + 1 by omega]; exact hPi2), (by rw [show (i + 1).toNat = i.toNat + 1 by omega]; exact hQi2), (by rw [hR, hRy]; exact (take_apart hpr c12_6).2.2.2.2), getV [undef, undef, undef, undef, (y13 4), undef, undef, undef, .slice a_a15 (fencesV P.F).length c_a15, .pointer (some ⟨n28, 0, none⟩), .int .i64 (R.e), .slice a_b37 (fencesV R.F).length c_b37, .pointer (some ⟨n115, 0, none⟩), .int .i64 (R.e), undef, undef, undef, undef, undef, undef, undef, undef, undef, undef, undef, undef, undef, undef, undef, undef, undef, undef, .int .i64 (i), .slice a (rs.length) cp, .int .i64 (((rs.length : Nat) : Int)), .bool true, .int .i64 (i), .int .i64 (i + 1), .pointer (some ⟨bp, 0, none⟩), .slice a_a15 (fencesV P.F).length c_a15, .tuple #[.agg #[.string (R.kb.ten), .string (R.kb.clu), .int .i64 (R.kb.epo), .slice a_x (os_x.length) c_x, .int .i64 (R.bad), .bool true], .int .i64 (R.e)], .pointer (some ⟨bp, 0, none⟩), .slice a (rs.length) cp, .int .i64 (i), .pointer (some ⟨b19, o20, none⟩), .agg #[.string (y_x26.ten), .string (y_x26.clu), .int .i64 (y_x26.epo), .slice a_x26 (rs_x26.length) c_x26], .tuple #[.agg #[.string (R.kb.ten), .string (R.kb.clu), .int .i64 (R.kb.epo), .slice a_x (os_x.length) c_x, .int .i64 (R.bad), .bool true], .int .i64 (R.e)], .agg #[.string (R.kb.ten), .string (R.kb.clu), .int .i64 (R.kb.epo), .slice a_x (os_x.length) c_x, .int .i64 (R.bad), .bool true], .int .i64 (R.e), .pointer (some ⟨bp, 0, none⟩), .slice a_b37 (fencesV R.F).length c_b37, .slice a (rs.length) cp, .int .i64 (i), .pointer (some ⟨b41, o42, none⟩), .pointer (some ⟨b41, o42 + 1, none⟩), .string (y_x26.clu), .bool false, .bool false, undef, undef, undef, undef, undef, .bool false, .bool false, .slice a_b37 (fencesV R.F).length c_b37, .int .i64 ((((fencesV R.F).length : Nat) : Int)), .slice a_a15 (fencesV P.F).length c_a15, .int .i64 ((((fencesV P.F).length : Nat) : Int)), .int .i64 (((((fencesV P.F).length : Nat) : Int)) + 1), .bool false, .bool false, .bool false, .slice a_b37 (fencesV R.F).length c_b37, .int .i64 ((((fencesV R.F).length : Nat) : Int)), .slice a_a15 (fencesV P.F).length c_a15, .int .i64 ((((fencesV P.F).length : Nat) : Int)), .bool true, .bool true, .pointer (some ⟨n28, 5, none⟩), .bool true, .bool false, .bool false, .bool false, .slice a (rs.length) cp, .int .i64 (i), .pointer (some ⟨b100, o101, none⟩), .pointer (some ⟨b100, o101, none⟩), .string (y_x26.ten), .string (ten), .bool false, .tuple #[.agg #[.string (R.kb.ten), .string (R.kb.clu), .int .i64 (R.kb.epo), .slice a_y (os_y.length) c_y, .int .i64 (R.bad), .bool (R.rose)], .int .i64 (R.e)], .pointer (some ⟨bq, 0, none⟩), .slice a (rs.length) cp, .int .i64 (i), .pointer (some ⟨b107, o108, none⟩), .agg #[.string (y_x26.ten), .string (y_x26.clu), .int .i64 (y_x26.epo), .slice a_x26 (rs_x26.length) c_x26], .tuple #[.agg #[.string (R.kb.ten), .string (R.kb.clu), .int .i64 (R.kb.epo), .slice a_y (os_y.length) c_y, .int .i64 (R.bad), .bool (R.rose)], .int .i64 (R.e)], .agg #[.string (R.kb.ten), .string (R.kb.clu), .int .i64 (R.kb.epo), .slice a_y (os_y.length) c_y, .int .i64 (R.bad), .bool (R.rose)], .int .i64 (R.e), .int .i64 (R.e), .int .i64 (R.e), .bool false, .bool false, .pointer (some ⟨n28, 4, none⟩), .int .i64 (R.bad), .pointer (some ⟨n115, 4, none⟩), .int .i64 (R.bad), .bool false, .bool false, .bool false, .pointer (some ⟨n28, 5, none⟩), .bool true, .pointer (some ⟨n115, 5, none⟩), .bool (R.rose), .bool false, .bool false, .bool false, .pointer (some ⟨n28, 0, none⟩), .agg #[.string (R.kb.ten), .string (R.kb.clu), .int .i64 (R.kb.epo), .slice a_x (os_x.length) c_x], .pointer (some ⟨n115, 0, none⟩), .agg #[.string (R.kb.ten), .string (R.kb.clu), .int .i64 (R.kb.epo), .slice a_y (os_y.length) c_y], .bool true, .bool false, .bool false], rfl⟩
            ·exfalso
             simp at c14_22
          ·exfalso
           exact c14_8 rfl
         ·exfalso
          exact c14_2 rfl
        ·rw [decide_eq_false c12_6]
         refine AWp.condT rfl rfl ?_
         refine AWp.exit ?_
         refine AWp.rowV (l := _) pok ?_
         refine sq.c (v := .int .i64 (i)) rfl rfl rfl rfl ?_
         refine sq.c (v := .int .i64 (i + 1)) rfl rfl (okI (wrap_i64 (by omega) (by omega))) rfl ?_
         refine sq.c (v := .int .i64 (i + 1)) rfl rfl rfl rfl ?_
         refine sq.e ?_
         refine ⟨_, _, rfl, (by omega), i + 1, R.st, Q, G_x, Gq, rfl, hs, hn, hf, hb_bp, hf_x, hg_x, hSp, hb_bq, hb_fq, hb_gq, hSq, okF_x, okG_x, okfq, okgq, (by omega), (by omega), (by rw [show (i + 1).toNat = i.toNat + 1 by omega]; exact hPi2), (hQi.up (by omega)), (by rw [hR]; exact take_other hpr c12_6), getV [undef, undef, undef, undef, (y13 4), undef, undef, undef, .slice a_a15 (fencesV P.F).length c_a15, .pointer (some ⟨n28, 0, none⟩), .int .i64 (R.e), .slice a_b37 (fencesV R.F).length c_b37, (y13 12), (y13 13), undef, undef, undef, undef, undef, undef, undef, undef, undef, undef, undef, undef, undef, undef, undef, undef, undef, undef, .int .i64 (i), .slice a (rs.length) cp, .int .i64 (((rs.length : Nat) : Int)), .bool true, .int .i64 (i), .int .i64 (i + 1), .pointer (some ⟨bp, 0, none⟩), .slice a_a15 (fencesV P.F).length c_a15, .tuple #[.agg #[.string (R.kb.ten), .string (R.kb.clu), .int .i64 (R.kb.epo), .slice a_x (os_x.length) c_x, .int .i64 (R.bad), .bool true], .int .i64 (R.e)], .pointer (some ⟨bp, 0, none⟩), .slice a (rs.length) cp, .int .i64 (i), .pointer (some ⟨b19, o20, none⟩), .agg #[.string (y_x26.ten), .string (y_x26.clu), .int .i64 (y_x26.epo), .slice a_x26 (rs_x26.length) c_x26], .tuple #[.agg #[.string (R.kb.ten), .string (R.kb.clu), .int .i64 (R.kb.epo), .slice a_x (os_x.length) c_x, .int .i64 (R.bad), .bool true], .int .i64 (R.e)], .agg #[.string (R.kb.ten), .string (R.kb.clu), .int .i64 (R.kb.epo), .slice a_x (os_x.length) c_x, .int .i64 (R.bad), .bool true], .int .i64 (R.e), .pointer (some ⟨bp, 0, none⟩), .slice a_b37 (fencesV R.F).length c_b37, .slice a (rs.length) cp, .int .i64 (i), .pointer (some ⟨b41, o42, none⟩), .pointer (some ⟨b41, o42 + 1, none⟩), .string (y_x26.clu), .bool false, .bool false, undef, undef, undef, undef, undef, .bool false, .bool false, .slice a_b37 (fencesV R.F).length c_b37, .int .i64 ((((fencesV R.F).length : Nat) : Int)), .slice a_a15 (fencesV P.F).length c_a15, .int .i64 ((((fencesV P.F).length : Nat) : Int)), .int .i64 (((((fencesV P.F).length : Nat) : Int)) + 1), .bool false, .bool false, .bool false, .slice a_b37 (fencesV R.F).length c_b37, .int .i64 ((((fencesV R.F).length : Nat) : Int)), .slice a_a15 (fencesV P.F).length c_a15, .int .i64 ((((fencesV P.F).length : Nat) : Int)), .bool true, .bool true, .pointer (some ⟨n28, 5, none⟩), .bool true, .bool false, .bool false, .bool false, .slice a (rs.length) cp, .int .i64 (i), .pointer (some ⟨b100, o101, none⟩), .pointer (some ⟨b100, o101, none⟩), .string (y_x26.ten), .string (ten), .bool true, (y13 91), (y13 92), (y13 93), (y13 94), (y13 95), (y13 96), (y13 97), (y13 98), (y13 99), (y13 100), (y13 101), (y13 102), (y13 103), (y13 104), (y13 105), (y13 106), (y13 107), (y13 108), (y13 109), (y13 110), (y13 111), (y13 112), (y13 113), (y13 114), (y13 115), (y13 116), (y13 117), (y13 118), (y13 119), (y13 120), (y13 121), (y13 122), (y13 123), (y13 124)], rfl⟩
       ·exfalso
        have q_ := hft.2.2 (by omega)
        rw [cr_x] at q_
        cases q_
      ·rw [decide_eq_false c10_26]
       refine sq.s (wantF (g := 27) (d := 78) rfl rfl rfl) rfl ?_
       refine sq.s (wantF (g := 27) (d := 78) rfl rfl rfl) rfl ?_
       refine sq.s (wantF (g := 27) (d := 78) rfl rfl rfl) rfl ?_
       refine sq.c (v := .bool false) (wantT (g := 21) (d := 72) rfl rfl rfl) rfl rfl rfl ?_
       refine sq.c (v := .bool false) rfl rfl rfl rfl ?_
       refine sq.e ?_
       refine AWp.condF rfl rfl ?_
       refine AWp.skip (AWp.seq (AWp.seq (AWp.rowV (l := _) pok ?_)))
       refine sq.c (v := .slice a (rs.length) cp) rfl rfl rfl rfl ?_
       refine sq.c (v := .int .i64 (i)) rfl rfl rfl rfl ?_
       have i132 : (0 : Int) ≤ (i : Int) := by omega
       obtain ⟨b126, o127, cs_b126, ow_b126, ci_b126, ie131, hb128, hc129, hr130⟩ := IsRow.at (P := Tryd.prog) (t := 22) (e := 31) (k := .i64) (by kernel_rfl) (by kernel_rfl) (hr.keep (.of0 hs)).is i132 hx_x26
       refine sq.c (v := .pointer (some ⟨b126, o127, none⟩)) rfl rfl ie131 rfl ?_
       refine sq.c (v := .pointer (some ⟨b126, o127, none⟩)) rfl rfl (by kernel_rfl) rfl ?_
       refine sq.c (v := .string (y_x26.ten)) rfl rfl (ld1 (P := Tryd.prog) (t := 9) (p := o127 + 0) (v := .string (y_x26.ten)) (by kernel_rfl) (by kernel_rfl) hb128 (hc129 0 _ rfl)) rfl ?_
       refine sq.c (v := .string (ten)) rfl rfl rfl rfl ?_
       refine sq.c (v := .bool (!decide (y_x26.ten = ten))) rfl rfl (neD _ _) rfl ?_
       refine sq.e ?_
       by_cases c12_6 : y_x26.ten = ten
       ·rw [decide_eq_true c12_6]
        refine AWp.condF rfl rfl ?_
        refine AWp.skip (AWp.seq (AWp.rowV (l := _) pok ?_))
        refine sq.c (v := .pointer (some ⟨bq, 0, none⟩)) rfl rfl rfl rfl ?_
        refine sq.c (v := .slice a (rs.length) cp) rfl rfl rfl rfl ?_
        refine sq.c (v := .int .i64 (i)) rfl rfl rfl rfl ?_
        have i139 : (0 : Int) ≤ (i : Int) := by omega
        obtain ⟨b133, o134, cs_b133, ow_b133, ci_b133, ie138, hb135, hc136, hr137⟩ := IsRow.at (P := Tryd.prog) (t := 22) (e := 31) (k := .i64) (by kernel_rfl) (by kernel_rfl) (hr.keep (.of0 hs)).is i139 hx_x26
        refine sq.c (v := .pointer (some ⟨b133, o134, none⟩)) rfl rfl ie138 rfl ?_
        refine sq.c (v := .agg #[.string (y_x26.ten), .string (y_x26.clu), .int .i64 (y_x26.epo), .slice a_x26 (rs_x26.length) c_x26]) rfl rfl (ldR (P := Tryd.prog) (t := 31) (k := 4) (xs := [.string (y_x26.ten), .string (y_x26.clu), .int .i64 (y_x26.epo), .slice a_x26 (rs_x26.length) c_x26]) (by kernel_rfl) (by kernel_rfl) hr137) rfl ?_
        obtain ⟨Ry, hRy⟩ : ∃ R, R = takeP Q y_x26 := ⟨_, rfl⟩
        have hQi2 : PInv (i.toNat + 1) Ry.st := by rw [hRy]; exact hQi.step hsb.2.2
        have hkb : SmallB R.kb := by rw [hR]; exact kb_small hsb
        refine sq.k rfl (CallsF.fn rfl (by kernel_rfl) rfl rfl) (takeApart (⟨hb_bq, hb_fq, hb_gq, okfq, okgq, hSq, ne_fq_gq⟩ : At _ Q _ _ _ _ Gq) y_x26 _ (R_x26.keep (.of0 hs)).is (D_x26.keep (.of0 hs)).is (hld.keep hs) hQi hi60 hsb hpr c12_6 hR hRy) ?_
        rintro _ h140 n141 ⟨w_y, os_y, G_y, rfl, W_y, D_y, hf_y, hg_y, okF_y, okG_y, hS_y⟩ s142 hn2 hf
        obtain ⟨a_y, c_y, rfl⟩ := W_y.slice
        refine sq.w ?_
        have ours_s142 : Ours _ [fq, gq] := .cons hb_fq rfl (.cons hb_gq rfl (.nil _))
        have hSp := hSp.keep (.of s142 ours_s142)
        have W_x := W_x.keep (.of s142 ours_s142)
        have D_x := D_x.keep (.of s142 ours_s142)
        have hb_bp := s142.get2 (e_bp_fq) (e_bp_gq) hb_bp
        have hf_x := s142.get2 (e_fp_fq) (e_fp_gq) hf_x
        have hg_x := s142.get2 (e_gp_fq) (e_gp_gq) hg_x
        have hb_bq := s142.get2 (ne_bq_fq) (ne_bq_gq) hb_bq
        have hb34 := s142.get2 (Ne.symm e_fq_n28) (Ne.symm e_gq_n28) hb34
        have hs := hs.fresh2 z_fq z_gq s142
        have hn := Nat.le_trans hn hn2
        have hSq := hS_y
        refine sq.c (v := .tuple #[.agg #[.string (R.kb.ten), .string (R.kb.clu), .int .i64 (R.kb.epo), .slice a_y (os_y.length) c_y, .int .i64 (R.bad), .bool (R.rose)], .int .i64 (R.e)]) rfl rfl rfl rfl ?_
        refine sq.c (v := .agg #[.string (R.kb.ten), .string (R.kb.clu), .int .i64 (R.kb.epo), .slice a_y (os_y.length) c_y, .int .i64 (R.bad), .bool (R.rose)]) rfl rfl rfl rfl ?_
        refine sq.c (v := .int .i64 (R.e)) rfl rfl rfl rfl ?_
        have e_bp_n141 : Apt bp n141 := hf.ne hb_bp
        have e_fp_n141 : Apt fp n141 := hf.ne hf_x
        have e_gp_n141 : Apt gp n141 := hf.ne hg_x
        have e_bq_n141 : Apt bq n141 := hf.ne hb_bq
        have e_fq_n141 : Apt fq n141 := hf.ne hf_y
        have e_gq_n141 : Apt gq n141 := hf.ne hg_y
        have e_n28_n141 : Apt n28 n141 := hf.ne hb34
        have z_n141 : h.get n141 = none := hf0 _ hn
        refine sq.op rfl rfl (Does.alloc (cs := [.string (⟨#[]⟩), .string (⟨#[]⟩), .int .i64 (0), .slice none (0) (0), .int .i64 (0), .bool false]) hf (z := .agg #[.string (⟨#[]⟩), .string (⟨#[]⟩), .int .i64 (0), .slice none (0) (0), .int .i64 (0), .bool false]) (by kernel_rfl) rfl) ?_
        rintro _ h144 n145 ⟨rfl, hb143⟩ s146 hn2 hf
        refine sq.w ?_
        have hSp := hSp.keep (.of0 s146)
        have W_x := W_x.keep (.of0 s146)
        have D_x := D_x.keep (.of0 s146)
        have hSq := hSq.keep (.of0 s146)
        have W_y := W_y.keep (.of0 s146)
        have D_y := D_y.keep (.of0 s146)
        have hb_bp := s146.sub _ _ hb_bp
        have hf_x := s146.sub _ _ hf_x
        have hg_x := s146.sub _ _ hg_x
        have hb_bq := s146.sub _ _ hb_bq
        have hf_y := s146.sub _ _ hf_y
        have hg_y := s146.sub _ _ hg_y
        have hb34 := s146.sub _ _ hb34
        have hs := hs.trans s146
        have hn := Nat.le_trans hn hn2
        refine sq.op rfl rfl (Does.store (k := 6) (xs := [.string (R.kb.ten), .string (R.kb.clu), .int .i64 (R.kb.epo), .slice a_y (os_y.length) c_y, .int .i64 (R.bad), .bool (R.rose)]) (cs' := [.string (R.kb.ten), .string (R.kb.clu), .int .i64 (R.kb.epo), .slice a_y (os_y.length) c_y, .int .i64 (R.bad), .bool (R.rose)]) hf (by kernel_rfl) rfl rfl rfl hb143 rfl rfl (Nat.le_of_ble_eq_true rfl) rfl) ?_
        rintro _ h148 n149 ⟨rfl, hb147⟩ s150 hn2 hf
        refine sq.w0 ?_
        have hSp := hSp.keep (.own s150 hb143 rfl)
        have W_x := W_x.keep (.own s150 hb143 rfl)
        have D_x := D_x.keep (.own s150 hb143 rfl)
        have hSq := hSq.keep (.own s150 hb143 rfl)
        have W_y := W_y.keep (.own s150 hb143 rfl)
        have D_y := D_y.keep (.own s150 hb143 rfl)
        have hb_bp := s150.get1 (e_bp_n141) hb_bp
        have hf_x := s150.get1 (e_fp_n141) hf_x
        have hg_x := s150.get1 (e_gp_n141) hg_x
        have hb_bq := s150.get1 (e_bq_n141) hb_bq
        have hf_y := s150.get1 (e_fq_n141) hf_y
        have hg_y := s150.get1 (e_gq_n141) hg_y
        have hb34 := s150.get1 (e_n28_n141) hb34
        have hs := hs.fresh z_n141 s150
        have hn := Nat.le_trans hn hn2
        refine sq.c (v := .int .i64 (R.e)) rfl rfl rfl rfl ?_
        refine sq.e (AWp.seq (AWp.rowV (l := _) pok ?_))
        refine sq.c (v := .int .i64 (R.e)) rfl rfl rfl rfl ?_
        refine sq.c (v := .int .i64 (R.e)) rfl rfl rfl rfl ?_
        refine sq.c (v := .bool (!decide (R.e = R.e))) rfl rfl rfl rfl ?_
        refine sq.c (v := .bool (!decide (R.e = R.e))) rfl rfl rfl rfl ?_
        by_cases c14_2 : R.e = R.e
        ·rw [decide_eq_true c14_2]
         refine sq.c (v := .pointer (some ⟨n28, 4, none⟩)) (wantT (g := 3) (d := 103) rfl rfl rfl) rfl (by kernel_rfl) rfl ?_
         refine sq.c (v := .int .i64 (R.bad)) (wantT (g := 3) (d := 103) rfl rfl rfl) rfl (ld1 (P := Tryd.prog) (t := 3) (p := 4) (v := .int .i64 (R.bad)) (by kernel_rfl) (by kernel_rfl) hb34 rfl) rfl ?_
         refine sq.c (v := .pointer (some ⟨n141, 4, none⟩)) (wantT (g := 3) (d := 103) rfl rfl rfl) rfl (by kernel_rfl) rfl ?_
         refine sq.c (v := .int .i64 (R.bad)) (wantT (g := 3) (d := 103) rfl rfl rfl) rfl (ld1 (P := Tryd.prog) (t := 3) (p := 4) (v := .int .i64 (R.bad)) (by kernel_rfl) (by kernel_rfl) hb147 rfl) rfl ?_
         refine sq.c (v := .bool (!decide (R.bad = R.bad))) (wantT (g := 3) (d := 103) rfl rfl rfl) rfl rfl rfl ?_
         refine sq.c (v := .bool (!decide (R.bad = R.bad))) rfl rfl rfl rfl ?_
         refine sq.c (v := .bool (!decide (R.bad = R.bad))) rfl rfl rfl rfl ?_
         by_cases c14_8 : R.bad = R.bad
         ·rw [decide_eq_true c14_8]
          refine sq.c (v := .pointer (some ⟨n28, 5, none⟩)) (wantT (g := 10) (d := 110) rfl rfl rfl) rfl (by kernel_rfl) rfl ?_
          refine sq.c (v := .bool (R.rose)) (wantT (g := 10) (d := 110) rfl rfl rfl) rfl (ld1 (P := Tryd.prog) (t := 4) (p := 5) (v := .bool (R.rose)) (by kernel_rfl) (by kernel_rfl) hb34 rfl) rfl ?_
          refine sq.c (v := .pointer (some ⟨n141, 5, none⟩)) (wantT (g := 10) (d := 110) rfl rfl rfl) rfl (by kernel_rfl) rfl ?_
          refine sq.c (v := .bool (R.rose)) (wantT (g := 10) (d := 110) rfl rfl rfl) rfl (ld1 (P := Tryd.prog) (t := 4) (p := 5) (v := .bool (R.rose)) (by kernel_rfl) (by kernel_rfl) hb147 rfl) rfl ?_
          refine sq.c (v := .bool ((R.rose) != (R.rose))) (wantT (g := 10) (d := 110) rfl rfl rfl) rfl (boolNeq _ _) rfl ?_
          refine sq.c (v := .bool ((R.rose) != (R.rose))) rfl rfl rfl rfl ?_
          refine sq.c (v := .bool ((R.rose) != (R.rose))) rfl rfl rfl rfl ?_
          rcases Bool.eq_false_or_eq_true ((R.rose) != (R.rose)) with c14_15 | c14_15
          ·exfalso
           simp at c14_15
          ·rw [c14_15]
           refine sq.c (v := .pointer (some ⟨n28, 0, none⟩)) (wantT (g := 17) (d := 117) rfl rfl rfl) rfl (by kernel_rfl) rfl ?_
           refine sq.c (v := .agg #[.string (R.kb.ten), .string (R.kb.clu), .int .i64 (R.kb.epo), .slice a_x (os_x.length) c_x]) (wantT (g := 17) (d := 117) rfl rfl rfl) rfl (ldA (P := Tryd.prog) (t := 31) (p := 0) (k := 4) (xs := [.string (R.kb.ten), .string (R.kb.clu), .int .i64 (R.kb.epo), .slice a_x (os_x.length) c_x]) (by kernel_rfl) (by kernel_rfl) hb34 rfl (Nat.le_of_ble_eq_true rfl)) rfl ?_
           refine sq.c (v := .pointer (some ⟨n141, 0, none⟩)) (wantT (g := 17) (d := 117) rfl rfl rfl) rfl (by kernel_rfl) rfl ?_
           refine sq.c (v := .agg #[.string (R.kb.ten), .string (R.kb.clu), .int .i64 (R.kb.epo), .slice a_y (os_y.length) c_y]) (wantT (g := 17) (d := 117) rfl rfl rfl) rfl (ldA (P := Tryd.prog) (t := 31) (p := 0) (k := 4) (xs := [.string (R.kb.ten), .string (R.kb.clu), .int .i64 (R.kb.epo), .slice a_y (os_y.length) c_y]) (by kernel_rfl) (by kernel_rfl) hb147 rfl (Nat.le_of_ble_eq_true rfl)) rfl ?_
           refine sq.t (v := .bool (decide (R.kb.ten = R.kb.ten ∧ R.kb.clu = R.kb.clu ∧ (R.kb.epo : Int) = R.kb.epo ∧ R.kb.ser = R.kb.ser))) (wantT (g := 17) (d := 117) rfl rfl rfl) (CallsF.fn rfl (by kernel_rfl) rfl rfl) (fun hf => sameBat_spec R.kb.ten R.kb.clu R.kb.ten R.kb.clu R.kb.epo R.kb.epo _ _ R.kb.ser R.kb.ser W_x.is D_x.is W_y.is D_y.is (by rw [D_x.1]; exact Nat.lt_of_le_of_lt hkb.2.2.1 (by decide)) (fun s hs9 => ⟨Nat.lt_of_le_of_lt (hkb.2.2.2 s hs9).1 (by decide), Nat.lt_trans (hkb.2.2.2 s hs9).2.1 (by decide)⟩)) hf rfl ?_
           intro n151 hn2 hf
           have hn := Nat.le_trans hn hn2
           rcases Bool.eq_false_or_eq_true (decide (R.kb.ten = R.kb.ten ∧ R.kb.clu = R.kb.clu ∧ (R.kb.epo : Int) = R.kb.epo ∧ R.kb.ser = R.kb.ser)) with c14_22 | c14_22
           ·rw [c14_22]
            refine sq.c (v := .bool false) (wantT (g := 17) (d := 117) rfl rfl rfl) rfl rfl rfl ?_
            refine sq.c (v := .bool false) rfl rfl rfl rfl ?_
            refine sq.e ?_
            refine AWp.condF rfl rfl ?_
            refine AWp.skip (AWp.rowV (l := _) pok ?_)
            refine sq.c (v := .int .i64 (i)) rfl rfl rfl rfl ?_
            refine sq.c (v := .int .i64 (i + 1)) rfl rfl (okI (wrap_i64 (by omega) (by omega))) rfl ?_
            refine sq.c (v := .int .i64 (i + 1)) rfl rfl rfl rfl ?_
            refine sq.e ?_
            refine ⟨_, _, rfl, (by omega), i + 1, R.st, Ry.st, G_x, G_y, rfl, hs, hn, hf, hb_bp, hf_x, hg_x, hSp, hb_bq, hf_y, hg_y, hSq, okF_x, okG_x, okF_y, okG_y, (by omega), (by omega), (by rw [show (i + 1).toNat = i.toNat + 1 by omega]; exact hPi2), (by rw [show (i + 1).toNat = i.toNat + 1 by omega]; exact hQi2), (by rw [hR, hRy]; exact (take_apart hpr c12_6).2.2.2.2), getV [undef, undef, undef, undef, (y13 4), undef, undef, undef, .slice a_a15 (fencesV P.F).length c_a15, .pointer (some ⟨n28, 0, none⟩), .int .i64 (R.e), .slice a_b37 (fencesV R.F).length c_b37, .pointer (some ⟨n141, 0, none⟩), .int .i64 (R.e), undef, undef, undef, undef, undef, undef, undef, undef, undef, undef, undef, undef, undef, undef, undef, undef, undef, undef, .int .i64 (i), .slice a (rs.length) cp, .int .i64 (((rs.length : Nat) : Int)), .bool true, .int .i64 (i), .int .i64 (i + 1), .pointer (some ⟨bp, 0, none⟩), .slice a_a15 (fencesV P.F).length c_a15, .tuple #[.agg #[.string (R.kb.ten), .string (R.kb.clu), .int .i64 (R.kb.epo), .slice a_x (os_x.length) c_x, .int .i64 (R.bad), .bool (R.rose)], .int .i64 (R.e)], .pointer (some ⟨bp, 0, none⟩), .slice a (rs.length) cp, .int .i64 (i), .pointer (some ⟨b19, o20, none⟩), .agg #[.string (y_x26.ten), .string (y_x26.clu), .int .i64 (y_x26.epo), .slice a_x26 (rs_x26.length) c_x26], .tuple #[.agg #[.string (R.kb.ten), .string (R.kb.clu), .int .i64 (R.kb.epo), .slice a_x (os_x.length) c_x, .int .i64 (R.bad), .bool (R.rose)], .int .i64 (R.e)], .agg #[.string (R.kb.ten), .string (R.kb.clu), .int .i64 (R.kb.epo), .slice a_x (os_x.length) c_x, .int .i64 (R.bad), .bool (R.rose)], .int .i64 (R.e), .pointer (some ⟨bp, 0, none⟩), .slice a_b37 (fencesV R.F).length c_b37, .slice a (rs.length) cp, .int .i64 (i), .pointer (some ⟨b41, o42, none⟩), .pointer (some ⟨b41, o42 + 1, none⟩), .string (y_x26.clu), .bool false, .bool false, undef, undef, undef, undef, undef, .bool false, .bool false, .slice a_b37 (fencesV R.F).length c_b37, .int .i64 ((((fencesV R.F).length : Nat) : Int)), .slice a_a15 (fencesV P.F).length c_a15, .int .i64 ((((fencesV P.F).length : Nat) : Int)), .int .i64 (((((fencesV P.F).length : Nat) : Int)) + 1), .bool false, .bool false, .bool false, .slice a_b37 (fencesV R.F).length c_b37, .int .i64 ((((fencesV R.F).length : Nat) : Int)), .slice a_a15 (fencesV P.F).length c_a15, .int .i64 ((((fencesV P.F).length : Nat) : Int)), .bool false, .bool false, undef, undef, undef, .bool false, .bool false, .slice a (rs.length) cp, .int .i64 (i), .pointer (some ⟨b126, o127, none⟩), .pointer (some ⟨b126, o127, none⟩), .string (y_x26.ten), .string (ten), .bool false, .tuple #[.agg #[.string (R.kb.ten), .string (R.kb.clu), .int .i64 (R.kb.epo), .slice a_y (os_y.length) c_y, .int .i64 (R.bad), .bool (R.rose)], .int .i64 (R.e)], .pointer (some ⟨bq, 0, none⟩), .slice a (rs.length) cp, .int .i64 (i), .pointer (some ⟨b133, o134, none⟩), .agg #[.string (y_x26.ten), .string (y_x26.clu), .int .i64 (y_x26.epo), .slice a_x26 (rs_x26.length) c_x26], .tuple #[.agg #[.string (R.kb.ten), .string (R.kb.clu), .int .i64 (R.kb.epo), .slice a_y (os_y.length) c_y, .int .i64 (R.bad), .bool (R.rose)], .int .i64 (R.e)], .agg #[.string (R.kb.ten), .string (R.kb.clu), .int .i64 (R.kb.epo), .slice a_y (os_y.length) c_y, .int .i64 (R.bad), .bool (R.rose)], .int .i64 (R.e), .int .i64 (R.e), .int .i64 (R.e), .bool false, .bool false, .pointer (some ⟨n28, 4, none⟩), .int .i64 (R.bad), .pointer (some ⟨n141, 4, none⟩), .int .i64 (R.bad), .bool false, .bool false, .bool false, .pointer (some ⟨n28, 5, none⟩), .bool (R.rose), .pointer (some ⟨n141, 5, none⟩), .bool (R.rose), .bool false, .bool false, .bool false, .pointer (some ⟨n28, 0, none⟩), .agg #[.string (R.kb.ten), .string (R.kb.clu), .int .i64 (R.kb.epo), .slice a_x (os_x.length) c_x], .pointer (some ⟨n141, 0, none⟩), .agg #[.string (R.kb.ten), .string (R.kb.clu), .int .i64 (R.kb.epo), .slice a_y (os_y.length) c_y], .bool true, .bool false, .bool false], rfl⟩
           ·exfalso
            simp at c14_22
         ·exfalso
          exact c14_8 rfl
        ·exfalso
         exact c14_2 rfl
       ·rw [decide_eq_false c12_6]
        refine AWp.condT rfl rfl ?_
        refine AWp.exit ?_
        refine AWp.rowV (l := _) pok ?_
        refine sq.c (v := .int .i64 (i)) rfl rfl rfl rfl ?_
        refine sq.c (v := .int .i64 (i + 1)) rfl rfl (okI (wrap_i64 (by omega) (by omega))) rfl ?_
        refine sq.c (v := .int .i64 (i + 1)) rfl rfl rfl rfl ?_
        refine sq.e ?_
        refine ⟨_, _, rfl, (by omega), i + 1, R.st, Q, G_x, Gq, rfl, hs, hn, hf, hb_bp, hf_x, hg_x, hSp, hb_bq, hb_fq, hb_gq, hSq, okF_x, okG_x, okfq, okgq, (by omega), (by omega), (by rw [show (i + 1).toNat = i.toNat + 1 by omega]; exact hPi2), (hQi.up (by omega)), (by rw [hR]; exact take_other hpr c12_6), getV [undef, undef, undef, undef, (y13 4), undef, undef, undef, .slice a_a15 (fencesV P.F).length c_a15, .pointer (some ⟨n28, 0, none⟩), .int .i64 (R.e), .slice a_b37 (fencesV R.F).length c_b37, (y13 12), (y13 13), undef, undef, undef, undef, undef, undef, undef, undef, undef, undef, undef, undef, undef, undef, undef, undef, undef, undef, .int .i64 (i), .slice a (rs.length) cp, .int .i64 (((rs.length : Nat) : Int)), .bool true, .int .i64 (i), .int .i64 (i + 1), .pointer (some ⟨bp, 0, none⟩), .slice a_a15 (fencesV P.F).length c_a15, .tuple #[.agg #[.string (R.kb.ten), .string (R.kb.clu), .int .i64 (R.kb.epo), .slice a_x (os_x.length) c_x, .int .i64 (R.bad), .bool (R.rose)], .int .i64 (R.e)], .pointer (some ⟨bp, 0, none⟩), .slice a (rs.length) cp, .int .i64 (i), .pointer (some ⟨b19, o20, none⟩), .agg #[.string (y_x26.ten), .string (y_x26.clu), .int .i64 (y_x26.epo), .slice a_x26 (rs_x26.length) c_x26], .tuple #[.agg #[.string (R.kb.ten), .string (R.kb.clu), .int .i64 (R.kb.epo), .slice a_x (os_x.length) c_x, .int .i64 (R.bad), .bool (R.rose)], .int .i64 (R.e)], .agg #[.string (R.kb.ten), .string (R.kb.clu), .int .i64 (R.kb.epo), .slice a_x (os_x.length) c_x, .int .i64 (R.bad), .bool (R.rose)], .int .i64 (R.e), .pointer (some ⟨bp, 0, none⟩), .slice a_b37 (fencesV R.F).length c_b37, .slice a (rs.length) cp, .int .i64 (i), .pointer (some ⟨b41, o42, none⟩), .pointer (some ⟨b41, o42 + 1, none⟩), .string (y_x26.clu), .bool false, .bool false, undef, undef, undef, undef, undef, .bool false, .bool false, .slice a_b37 (fencesV R.F).length c_b37, .int .i64 ((((fencesV R.F).length : Nat) : Int)), .slice a_a15 (fencesV P.F).length c_a15, .int .i64 ((((fencesV P.F).length : Nat) : Int)), .int .i64 (((((fencesV P.F).length : Nat) : Int)) + 1), .bool false, .bool false, .bool false, .slice a_b37 (fencesV R.F).length c_b37, .int .i64 ((((fencesV R.F).length : Nat) : Int)), .slice a_a15 (fencesV P.F).length c_a15, .int .i64 ((((fencesV P.F).length : Nat) : Int)), .bool false, .bool false, undef, undef, undef, .bool false, .bool false, .slice a (rs.length) cp, .int .i64 (i), .pointer (some ⟨b126, o127, none⟩), .pointer (some ⟨b126, o127, none⟩), .string (y_x26.ten), .string (ten), .bool true, (y13 91), (y13 92), (y13 93), (y13 94), (y13 95), (y13 96), (y13 97), (y13 98), (y13 99), (y13 100), (y13 101), (y13 102), (y13 103), (y13 104), (y13 105), (y13 106), (y13 107), (y13 108), (y13 109), (y13 110), (y13 111), (y13 112), (y13 113), (y13 114), (y13 115), (y13 116), (y13 117), (y13 118), (y13 119), (y13 120), (y13 121), (y13 122), (y13 123), (y13 124)], rfl⟩
   ·rw [decide_eq_false c5_3]
    refine AWp.condF rfl rfl ?_
    refine AWp.exit ?_
    refine AWp.seq (AWp.rowV (l := _) pok ?_)
    refine sq.c (v := .pointer (some ⟨bp, 0, none⟩)) rfl rfl rfl rfl ?_
    refine sq.k rfl (CallsF.fn rfl (by kernel_rfl) rfl rfl) (allOn (⟨hb_bp, hb_fp, hb_gp, okfp, okgp, hSp, ne_fp_gp⟩ : At _ P _ _ _ _ Gp) hPi hi60) ?_
    rintro _ h152 n153 ⟨ro_u, R_u, D_u⟩ s154 hn2 hf
    obtain ⟨a_u, c_u, rfl⟩ := R_u.slice
    refine sq.w ?_
    have hSq := hSq.keep (.of0 s154)
    have hb_bq := s154.sub _ _ hb_bq
    have hb_fq := s154.sub _ _ hb_fq
    have hb_gq := s154.sub _ _ hb_gq
    have hs := hs.trans s154
    have hn := Nat.le_trans hn hn2
    change FOwns _ ro_u (allV P.S) at D_u
    refine sq.c (v := .pointer (some ⟨bq, 0, none⟩)) rfl rfl rfl rfl ?_
    refine sq.k rfl (CallsF.fn rfl (by kernel_rfl) rfl rfl) (allOn (⟨hb_bq, hb_fq, hb_gq, okfq, okgq, hSq, ne_fq_gq⟩ : At _ Q _ _ _ _ Gq) hQi hi60) ?_
    rintro _ h155 n156 ⟨ro_w, R_w, D_w⟩ s157 hn2 hf
    obtain ⟨a_w, c_w, rfl⟩ := R_w.slice
    refine sq.w ?_
    have R_u := R_u.keep (.of0 s157)
    have D_u := D_u.keep (.of0 s157)
    have hs := hs.trans s157
    have hn := Nat.le_trans hn hn2
    change FOwns _ ro_w (allV Q.S) at D_w
    refine sq.c (v := .slice a_u (ro_u.length) c_u) rfl rfl rfl rfl ?_
    refine sq.c (v := .slice a_w (ro_w.length) c_w) rfl rfl rfl rfl ?_
    refine sq.e (AWp.seq (AWp.rowV (l := _) pok ?_))
    refine sq.c (v := .int .i64 (0)) rfl rfl rfl rfl ?_
    refine sq.e (AWp.seq (AWp.seq (AWp.rowV (l := _) pok ?_)))
    refine sq.c (v := .int .i64 (0)) rfl rfl rfl rfl ?_
    refine sq.e (AWp.block ?_)
    have hru := D_u.1
    have hrw := D_w.1
    have hrl3 := D_u.1
    rw [allV_len] at hrl3
    have hls3 := hPi.lenS
    refine AWp.loopV (fun d vs h155' n159 => ∃ (u k : Int), d = ((ro_u.length : Nat) - u + 1).toNat ∧ h155 = h155' ∧ n ≤ n159 ∧ Free h155 n159 ∧ (0 ≤ u) ∧ (u ≤ (ro_u.length : Nat)) ∧ (k = ((((allV P.S).take u.toNat).filter (fun x : POwn => decide (x.1 = ten))).length : Nat)) ∧ (k ≤ u) ∧ ∃ y158 : Nat → Value, vs = [.slice a (rs.length) cp, .string (ten), undef, undef, (y158 4), .pointer (some ⟨bp, 0, none⟩), .pointer (some ⟨bq, 0, none⟩), .int .i64 (i), (y13 8), (y13 9), (y13 10), (y13 11), (y13 12), (y13 13), .slice a_u (ro_u.length) c_u, .slice a_w (ro_w.length) c_w, .int .i64 (k), .int .i64 (u), .slice a (rs.length) cp, .bool false, .bool false, .string (ten), .int .i64 ((((ten).data.toList.length : Nat) : Int)), .bool false, .bool false, .bool false, .bool true, .bool false, .bool false, undef, .pointer (some ⟨bp, 0, none⟩), .pointer (some ⟨bq, 0, none⟩), .int .i64 (i), .slice a (rs.length) cp, .int .i64 (((rs.length : Nat) : Int)), .bool false, (y13 36), (y13 37), (y13 38), (y13 39), (y13 40), (y13 41), (y13 42), (y13 43), (y13 44), (y13 45), (y13 46), (y13 47), (y13 48), (y13 49), (y13 50), (y13 51), (y13 52), (y13 53), (y13 54), (y13 55), (y13 56), (y13 57), (y13 58), (y13 59), (y13 60), (y13 61), (y13 62), (y13 63), (y13 64), (y13 65), (y13 66), (y13 67), (y13 68), (y13 69), (y13 70), (y13 71), (y13 72), (y13 73), (y13 74), (y13 75), (y13 76), (y13 77), (y13 78), (y13 79), (y13 80), (y13 81), (y13 82), (y13 83), (y13 84), (y13 85), (y13 86), (y13 87), (y13 88), (y13 89), (y13 90), (y13 91), (y13 92), (y13 93), (y13 94), (y13 95), (y13 96), (y13 97), (y13 98), (y13 99), (y13 100), (y13 101), (y13 102), (y13 103), (y13 104), (y13 105), (y13 106), (y13 107), (y13 108), (y13 109), (y13 110), (y13 111), (y13 112), (y13 113), (y13 114), (y13 115), (y13 116), (y13 117), (y13 118), (y13 119), (y13 120), (y13 121), (y13 122), (y13 123), (y13 124), .pointer (some ⟨bp, 0, none⟩), .slice a_u (ro_u.length) c_u, .pointer (some ⟨bq, 0, none⟩), .slice a_w (ro_w.length) c_w, (y158 129), (y158 130), (y158 131), (y158 132), (y158 133), (y158 134), (y158 135), (y158 136), (y158 137), (y158 138), (y158 139), (y158 140), (y158 141), (y158 142), (y158 143), (y158 144), (y158 145), (y158 146), (y158 147), (y158 148), (y158 149), (y158 150), (y158 151), (y158 152), (y158 153), (y158 154), (y158 155), (y158 156), (y158 157), (y158 158), (y158 159), (y158 160), (y158 161), (y158 162), (y158 163), (y158 164), (y158 165), (y158 166), (y158 167), (y158 168), (y158 169), (y158 170), (y158 171), (y158 172), (y158 173), (y158 174), (y158 175), (y158 176), (y158 177), (y158 178), (y158 179), undef, undef, undef, undef]) (((ro_u.length : Nat) - (0 : Int) + 1).toNat) ⟨0, 0, rfl, rfl, hn, hf, (by omega), (by omega), (rfl), (Int.le_refl 0), getV [undef, undef, undef, undef, (y13 4), undef, undef, undef, undef, undef, undef, undef, undef, undef, undef, undef, undef, undef, undef, undef, undef, undef, undef, undef, undef, undef, undef, undef, undef, undef, undef, undef, undef, undef, undef, undef, undef, undef, undef, undef, undef, undef, undef, undef, undef, undef, undef, undef, undef, undef, undef, undef, undef, undef, undef, undef, undef, undef, undef, undef, undef, undef, undef, undef, undef, undef, undef, undef, undef, undef, undef, undef, undef, undef, undef, undef, undef, undef, undef, undef, undef, undef, undef, undef, undef, undef, undef, undef, undef, undef, undef, undef, undef, undef, undef, undef, undef, undef, undef, undef, undef, undef, undef, undef, undef, undef, undef, undef, undef, undef, undef, undef, undef, undef, undef, undef, undef, undef, undef, undef, undef, undef, undef, undef, undef, undef, undef, undef, undef, undef, undef, undef, undef, undef, undef, undef, undef, undef, undef, undef, undef, undef, undef, undef, undef, undef, undef, undef, undef, undef, undef, undef, undef, undef, undef, undef, undef, undef, undef, undef, undef, undef, undef, undef, undef, undef, undef, undef, undef, undef, undef, undef, undef, undef, undef, undef, undef, undef, undef, undef], rfl⟩ ?_
    rintro d vs h155' n159 ⟨u, k, rfl, rfl, hn, hf, hu0, hu1, hk, hku, y158, rfl⟩
    refine AWp.seq (AWp.seq (AWp.rowV (l := _) pok ?_))
    refine sq.c (v := .int .i64 (u)) rfl rfl rfl rfl ?_
    refine sq.c (v := .slice a_u (ro_u.length) c_u) rfl rfl rfl rfl ?_
    refine sq.c (v := .int .i64 (((ro_u.length : Nat) : Int))) rfl rfl (by kernel_rfl) rfl ?_
    refine sq.c (v := .bool (decide (u < (((ro_u.length : Nat) : Int))))) rfl rfl rfl rfl ?_
    refine sq.e ?_
    by_cases c19_3 : u < (((ro_u.length : Nat) : Int))
    ·rw [decide_eq_true c19_3]
     refine AWp.condT rfl rfl ?_
     refine AWp.skip (AWp.seq (AWp.block (AWp.seq (AWp.seq (AWp.rowV (l := _) pok ?_)))))
     refine sq.c (v := .slice a_u (ro_u.length) c_u) rfl rfl rfl rfl ?_
     refine sq.c (v := .int .i64 (u)) rfl rfl rfl rfl ?_
     have i166 : (0 : Int) ≤ (u : Int) := by omega
     obtain ⟨x167, hx_x167⟩ : ∃ x, (ro_u)[((u : Int)).toNat]? = some x := ⟨_, List.getElem?_eq_getElem (by omega)⟩
     obtain ⟨y_x167, hy_x167, hb_x167⟩ := D_u.at hx_x167
     obtain ⟨t_x167, ⟨a1_x167, n1_x167, c1_x167⟩, ⟨a2_x167, n2_x167, c2_x167⟩⟩ := x167
     obtain ⟨rfl, L_x167, M_x167⟩ := hb_x167
     obtain ⟨_, _, e1_x167⟩ := L_x167.slice
     cases e1_x167
     obtain ⟨_, _, e2_x167⟩ := M_x167.slice
     cases e2_x167
     obtain ⟨b160, o161, cs_b160, ow_b160, ci_b160, ie165, hb162, hc163, hr164⟩ := IsRow.at (P := Tryd.prog) (t := 38) (e := 45) (k := .i64) (by kernel_rfl) (by kernel_rfl) R_u.is i166 hx_x167
     refine sq.c (v := .pointer (some ⟨b160, o161, none⟩)) rfl rfl ie165 rfl ?_
     refine sq.c (v := .pointer (some ⟨b160, o161, none⟩)) rfl rfl (by kernel_rfl) rfl ?_
     refine sq.c (v := .string (y_x167.1)) rfl rfl (ld1 (P := Tryd.prog) (t := 9) (p := o161 + 0) (v := .string (y_x167.1)) (by kernel_rfl) (by kernel_rfl) hb162 (hc163 0 _ rfl)) rfl ?_
     refine sq.c (v := .string (ten)) rfl rfl rfl rfl ?_
     refine sq.c (v := .bool (!decide (y_x167.1 = ten))) rfl rfl (neD _ _) rfl ?_
     refine sq.e ?_
     by_cases c21_6 : y_x167.1 = ten
     ·rw [decide_eq_true c21_6]
      refine AWp.condF rfl rfl ?_
      refine AWp.skip (AWp.seq (AWp.seq ?_))
      refine AWp.anyK pok [0, 1, 2, 3, 4, 5, 6, 7, 8, 9, 10, 11, 12, 13, 14, 15, 16, 17, 18, 19, 20, 21, 22, 23, 24, 25, 26, 27, 28, 29, 30, 31, 32, 33, 34, 35] (by kernel_rfl) (by kernel_rfl) rfl (fun x fr fr' h n hd _ q => ⟨hd ▸ q.1, q.2⟩) ?_
      refine dk.c (v := .int .i64 (k)) rfl (by kernel_rfl) rfl rfl rfl rfl ?_
      refine dk.c (v := .slice a_w (ro_w.length) c_w) rfl (by kernel_rfl) rfl rfl rfl rfl ?_
      refine dk.c (v := .int .i64 (((ro_w.length : Nat) : Int))) rfl (by kernel_rfl) rfl rfl (by kernel_rfl) rfl ?_
      refine dk.c (v := .bool (decide ((((ro_w.length : Nat) : Int)) ≤ k))) rfl (by kernel_rfl) rfl rfl rfl rfl ?_
      refine dk.c (v := .bool (decide ((((ro_w.length : Nat) : Int)) ≤ k))) rfl (by kernel_rfl) rfl rfl rfl rfl ?_
      by_cases c22_3 : (((ro_w.length : Nat) : Int)) ≤ k
      ·exfalso
       have hz_ := filter_at (p := (fun x : POwn => decide (x.1 = ten))) hy_x167 (decide_eq_true c21_6)
       rw [← all_apart hpr hPi hQi] at hz_
       have ek_ : k.toNat = (((allV P.S).take u.toNat).filter (fun x : POwn => decide (x.1 = ten))).length := by omega
       have hlt_ := (List.getElem?_eq_some_iff.1 hz_).1
       omega
      ·rw [decide_eq_false c22_3]
       refine dk.c (v := .slice a_u (ro_u.length) c_u) rfl (by kernel_rfl) (wantT (g := 4) (d := 146) rfl rfl rfl) rfl rfl rfl ?_
       refine dk.c (v := .int .i64 (u)) rfl (by kernel_rfl) (wantT (g := 4) (d := 146) rfl rfl rfl) rfl rfl rfl ?_
       have i174 : (0 : Int) ≤ (u : Int) := by omega
       obtain ⟨b168, o169, cs_b168, ow_b168, ci_b168, ie173, hb170, hc171, hr172⟩ := IsRow.at (P := Tryd.prog) (t := 38) (e := 45) (k := .i64) (by kernel_rfl) (by kernel_rfl) R_u.is i174 hx_x167
       refine dk.c (v := .pointer (some ⟨b168, o169, none⟩)) rfl (by kernel_rfl) (wantT (g := 4) (d := 146) rfl rfl rfl) rfl ie173 rfl ?_
       refine dk.c (v := .pointer (some ⟨b168, o169 + 1, none⟩)) rfl (by kernel_rfl) (wantT (g := 4) (d := 146) rfl rfl rfl) rfl (by kernel_rfl) rfl ?_
       refine dk.c (v := .pointer (some ⟨b168, o169 + 1, none⟩)) rfl (by kernel_rfl) (wantT (g := 4) (d := 146) rfl rfl rfl) rfl (by kernel_rfl) rfl ?_
       refine dk.gB (v := .slice a1_x167 (y_x167.2.1.length) c1_x167) b168 rfl (by kernel_rfl) (wantT (g := 4) (d := 146) rfl rfl rfl) rfl (fun _ q_ => (ld1 (P := Tryd.prog) (t := 40) (p := o169 + 1) (v := .slice a1_x167 (y_x167.2.1.length) c1_x167) (by kernel_rfl) (by kernel_rfl) (q_ _ hb170) (hc171 1 _ rfl))) rfl ?_
       refine dk.c (v := .slice a_w (ro_w.length) c_w) rfl (by kernel_rfl) (wantT (g := 4) (d := 146) rfl rfl rfl) rfl rfl rfl ?_
       refine dk.c (v := .int .i64 (k)) rfl (by kernel_rfl) (wantT (g := 4) (d := 146) rfl rfl rfl) rfl rfl rfl ?_
       have i181 : (0 : Int) ≤ (k : Int) := by omega
       obtain ⟨x182, hx_x182⟩ : ∃ x, (ro_w)[((k : Int)).toNat]? = some x := ⟨_, List.getElem?_eq_getElem (by omega)⟩
       obtain ⟨y_x182, hy_x182, hb_x182⟩ := D_w.at hx_x182
       obtain ⟨t_x182, ⟨a1_x182, n1_x182, c1_x182⟩, ⟨a2_x182, n2_x182, c2_x182⟩⟩ := x182
       obtain ⟨rfl, L_x182, M_x182⟩ := hb_x182
       obtain ⟨_, _, e1_x182⟩ := L_x182.slice
       cases e1_x182
       obtain ⟨_, _, e2_x182⟩ := M_x182.slice
       cases e2_x182
       obtain ⟨b175, o176, cs_b175, ow_b175, ci_b175, ie180, hb177, hc178, hr179⟩ := IsRow.at (P := Tryd.prog) (t := 38) (e := 45) (k := .i64) (by kernel_rfl) (by kernel_rfl) R_w.is i181 hx_x182
       refine dk.c (v := .pointer (some ⟨b175, o176, none⟩)) rfl (by kernel_rfl) (wantT (g := 4) (d := 146) rfl rfl rfl) rfl ie180 rfl ?_
       refine dk.c (v := .pointer (some ⟨b175, o176 + 1, none⟩)) rfl (by kernel_rfl) (wantT (g := 4) (d := 146) rfl rfl rfl) rfl (by kernel_rfl) rfl ?_
       refine dk.c (v := .pointer (some ⟨b175, o176 + 1, none⟩)) rfl (by kernel_rfl) (wantT (g := 4) (d := 146) rfl rfl rfl) rfl (by kernel_rfl) rfl ?_
       refine dk.gB (v := .slice a1_x182 (y_x182.2.1.length) c1_x182) b175 rfl (by kernel_rfl) (wantT (g := 4) (d := 146) rfl rfl rfl) rfl (fun _ q_ => (ld1 (P := Tryd.prog) (t := 40) (p := o176 + 1) (v := .slice a1_x182 (y_x182.2.1.length) c1_x182) (by kernel_rfl) (by kernel_rfl) (q_ _ hb177) (hc178 1 _ rfl))) rfl ?_
       refine dk.t (v := .bool (decide (y_x167.2.1 = y_x182.2.1))) rfl (by kernel_rfl) (wantT (g := 4) (d := 146) rfl rfl rfl) (CallsF.fn rfl (by kernel_rfl) rfl rfl) (fun hf => l27_spec _ _ L_x167.is L_x182.is (by have := (all_one hPi.inv (List.mem_of_getElem? hy_x167)).2.2.1.1; omega)) hf rfl ?_
       intro n183 hn2 hf
       have hn := Nat.le_trans hn hn2
       refine dk.c (v := .bool (!decide (y_x167.2.1 = y_x182.2.1))) rfl (by kernel_rfl) (wantT (g := 4) (d := 146) rfl rfl rfl) rfl rfl rfl ?_
       refine dk.c (v := .bool (!decide (y_x167.2.1 = y_x182.2.1))) rfl (by kernel_rfl) rfl rfl rfl rfl ?_
       refine dk.c (v := .bool (!decide (y_x167.2.1 = y_x182.2.1))) rfl (by kernel_rfl) rfl rfl rfl rfl ?_
       by_cases c_sm : y_x167.2.1 = y_x182.2.1
       ·rw [decide_eq_true c_sm]
        refine dk.c (v := .slice a_u (ro_u.length) c_u) rfl (by kernel_rfl) (wantT (g := 20) (d := 162) rfl rfl rfl) rfl rfl rfl ?_
        refine dk.c (v := .int .i64 (u)) rfl (by kernel_rfl) (wantT (g := 20) (d := 162) rfl rfl rfl) rfl rfl rfl ?_
        have i190 : (0 : Int) ≤ (u : Int) := by omega
        obtain ⟨b184, o185, cs_b184, ow_b184, ci_b184, ie189, hb186, hc187, hr188⟩ := IsRow.at (P := Tryd.prog) (t := 38) (e := 45) (k := .i64) (by kernel_rfl) (by kernel_rfl) R_u.is i190 hx_x167
        refine dk.c (v := .pointer (some ⟨b184, o185, none⟩)) rfl (by kernel_rfl) (wantT (g := 20) (d := 162) rfl rfl rfl) rfl ie189 rfl ?_
        refine dk.c (v := .pointer (some ⟨b184, o185 + 1, none⟩)) rfl (by kernel_rfl) (wantT (g := 20) (d := 162) rfl rfl rfl) rfl (by kernel_rfl) rfl ?_
        refine dk.c (v := .pointer (some ⟨b184, o185 + 2, none⟩)) rfl (by kernel_rfl) (wantT (g := 20) (d := 162) rfl rfl rfl) rfl (by kernel_rfl) rfl ?_
        refine dk.gB (v := .slice a2_x167 (y_x167.2.2.length) c2_x167) b184 rfl (by kernel_rfl) (wantT (g := 20) (d := 162) rfl rfl rfl) rfl (fun _ q_ => (ld1 (P := Tryd.prog) (t := 41) (p := o185 + 2) (v := .slice a2_x167 (y_x167.2.2.length) c2_x167) (by kernel_rfl) (by kernel_rfl) (q_ _ hb186) (hc187 2 _ rfl))) rfl ?_
        refine dk.c (v := .slice a_w (ro_w.length) c_w) rfl (by kernel_rfl) (wantT (g := 20) (d := 162) rfl rfl rfl) rfl rfl rfl ?_
        refine dk.c (v := .int .i64 (k)) rfl (by kernel_rfl) (wantT (g := 20) (d := 162) rfl rfl rfl) rfl rfl rfl ?_
        have i197 : (0 : Int) ≤ (k : Int) := by omega
        obtain ⟨b191, o192, cs_b191, ow_b191, ci_b191, ie196, hb193, hc194, hr195⟩ := IsRow.at (P := Tryd.prog) (t := 38) (e := 45) (k := .i64) (by kernel_rfl) (by kernel_rfl) R_w.is i197 hx_x182
        refine dk.c (v := .pointer (some ⟨b191, o192, none⟩)) rfl (by kernel_rfl) (wantT (g := 20) (d := 162) rfl rfl rfl) rfl ie196 rfl ?_
        refine dk.c (v := .pointer (some ⟨b191, o192 + 1, none⟩)) rfl (by kernel_rfl) (wantT (g := 20) (d := 162) rfl rfl rfl) rfl (by kernel_rfl) rfl ?_
        refine dk.c (v := .pointer (some ⟨b191, o192 + 2, none⟩)) rfl (by kernel_rfl) (wantT (g := 20) (d := 162) rfl rfl rfl) rfl (by kernel_rfl) rfl ?_
        refine dk.gB (v := .slice a2_x182 (y_x182.2.2.length) c2_x182) b191 rfl (by kernel_rfl) (wantT (g := 20) (d := 162) rfl rfl rfl) rfl (fun _ q_ => (ld1 (P := Tryd.prog) (t := 41) (p := o192 + 2) (v := .slice a2_x182 (y_x182.2.2.length) c2_x182) (by kernel_rfl) (by kernel_rfl) (q_ _ hb193) (hc194 2 _ rfl))) rfl ?_
        refine dk.t (v := .bool (decide (y_x167.2.2 = y_x182.2.2))) rfl (by kernel_rfl) (wantT (g := 20) (d := 162) rfl rfl rfl) (CallsF.fn rfl (by kernel_rfl) rfl rfl) (fun hf => samples_spec _ _ M_x167.is M_x182.is (by have := (all_one hPi.inv (List.mem_of_getElem? hy_x167)).2.1; omega)) hf rfl ?_
        intro n198 hn2 hf
        have hn := Nat.le_trans hn hn2
        refine dk.c (v := .bool (!decide (y_x167.2.2 = y_x182.2.2))) rfl (by kernel_rfl) (wantT (g := 20) (d := 162) rfl rfl rfl) rfl rfl rfl ?_
        refine dk.c (v := .bool (!decide (y_x167.2.2 = y_x182.2.2))) rfl (by kernel_rfl) rfl rfl rfl rfl ?_
        refine dk.e ?_
        by_cases c_sp : y_x167.2.2 = y_x182.2.2
        ·rw [decide_eq_true c_sp]
         refine AWp.condF rfl rfl ?_
         refine AWp.skip (AWp.rowV (l := _) pok ?_)
         refine sq.c (v := .int .i64 (k)) rfl rfl rfl rfl ?_
         refine sq.c (v := .int .i64 (k + 1)) rfl rfl (okI (wrap_i64 (by omega) (by omega))) rfl ?_
         refine sq.c (v := .int .i64 (k + 1)) rfl rfl rfl rfl ?_
         refine sq.e (AWp.rowV (l := _) pok ?_)
         refine sq.c (v := .int .i64 (u)) rfl rfl rfl rfl ?_
         refine sq.c (v := .int .i64 (u + 1)) rfl rfl (okI (wrap_i64 (by omega) (by omega))) rfl ?_
         refine sq.c (v := .int .i64 (u + 1)) rfl rfl rfl rfl ?_
         refine sq.e ?_
         refine ⟨_, _, rfl, (by omega), u + 1, k + 1, rfl, rfl, hn, hf, (by omega), (by omega), (by rw [take_snoc hu0 hy_x167, List.filter_append, List.filter_cons, if_pos (by simpa using c21_6), List.filter_nil]; simp only [List.length_append, List.length_cons, List.length_nil]; omega), (by omega), getV [undef, undef, undef, undef, (y158 4), undef, undef, undef, undef, undef, undef, undef, undef, undef, undef, undef, undef, undef, undef, undef, undef, undef, undef, undef, undef, undef, undef, undef, undef, undef, undef, undef, undef, undef, undef, undef, undef, undef, undef, undef, undef, undef, undef, undef, undef, undef, undef, undef, undef, undef, undef, undef, undef, undef, undef, undef, undef, undef, undef, undef, undef, undef, undef, undef, undef, undef, undef, undef, undef, undef, undef, undef, undef, undef, undef, undef, undef, undef, undef, undef, undef, undef, undef, undef, undef, undef, undef, undef, undef, undef, undef, undef, undef, undef, undef, undef, undef, undef, undef, undef, undef, undef, undef, undef, undef, undef, undef, undef, undef, undef, undef, undef, undef, undef, undef, undef, undef, undef, undef, undef, undef, undef, undef, undef, undef, undef, undef, undef, undef, .int .i64 (u), .slice a_u (ro_u.length) c_u, .int .i64 (((ro_u.length : Nat) : Int)), .bool true, .int .i64 (u), .int .i64 (u + 1), .slice a_u (ro_u.length) c_u, .int .i64 (u), .pointer (some ⟨b160, o161, none⟩), .pointer (some ⟨b160, o161, none⟩), .string (y_x167.1), .string (ten), .bool false, .int .i64 (k), .slice a_w (ro_w.length) c_w, .int .i64 (((ro_w.length : Nat) : Int)), .bool false, .bool false, .slice a_u (ro_u.length) c_u, .int .i64 (u), .pointer (some ⟨b168, o169, none⟩), .pointer (some ⟨b168, o169 + 1, none⟩), .pointer (some ⟨b168, o169 + 1, none⟩), .slice a1_x167 (y_x167.2.1.length) c1_x167, .slice a_w (ro_w.length) c_w, .int .i64 (k), .pointer (some ⟨b175, o176, none⟩), .pointer (some ⟨b175, o176 + 1, none⟩), .pointer (some ⟨b175, o176 + 1, none⟩), .slice a1_x182 (y_x182.2.1.length) c1_x182, .bool true, .bool false, .bool false, .bool false, .slice a_u (ro_u.length) c_u, .int .i64 (u), .pointer (some ⟨b184, o185, none⟩), .pointer (some ⟨b184, o185 + 1, none⟩), .pointer (some ⟨b184, o185 + 2, none⟩), .slice a2_x167 (y_x167.2.2.length) c2_x167, .slice a_w (ro_w.length) c_w, .int .i64 (k), .pointer (some ⟨b191, o192, none⟩), .pointer (some ⟨b191, o192 + 1, none⟩), .pointer (some ⟨b191, o192 + 2, none⟩), .slice a2_x182 (y_x182.2.2.length) c2_x182, .bool true, .bool false, .bool false, .int .i64 (k), .int .i64 (k + 1)], rfl⟩
        ·exfalso
         have hz_ := filter_at (p := (fun x : POwn => decide (x.1 = ten))) hy_x167 (decide_eq_true c21_6)
         rw [← all_apart hpr hPi hQi] at hz_
         have ek_ : k.toNat = (((allV P.S).take u.toNat).filter (fun x : POwn => decide (x.1 = ten))).length := by omega
         have e_ : y_x167 = y_x182 := by rw [← ek_, hy_x182] at hz_; exact (Option.some.inj hz_).symm
         exact c_sp (by rw [e_])
       ·exfalso
        have hz_ := filter_at (p := (fun x : POwn => decide (x.1 = ten))) hy_x167 (decide_eq_true c21_6)
        rw [← all_apart hpr hPi hQi] at hz_
        have ek_ : k.toNat = (((allV P.S).take u.toNat).filter (fun x : POwn => decide (x.1 = ten))).length := by omega
        have e_ : y_x167 = y_x182 := by rw [← ek_, hy_x182] at hz_; exact (Option.some.inj hz_).symm
        exact c_sm (by rw [e_])
     ·rw [decide_eq_false c21_6]
      refine AWp.condT rfl rfl ?_
      refine AWp.exit ?_
      refine AWp.rowV (l := _) pok ?_
      refine sq.c (v := .int .i64 (u)) rfl rfl rfl rfl ?_
      refine sq.c (v := .int .i64 (u + 1)) rfl rfl (okI (wrap_i64 (by omega) (by omega))) rfl ?_
      refine sq.c (v := .int .i64 (u + 1)) rfl rfl rfl rfl ?_
      refine sq.e ?_
      refine ⟨_, _, rfl, (by omega), u + 1, k, rfl, rfl, hn, hf, (by omega), (by omega), (by rw [take_snoc hu0 hy_x167, List.filter_append, List.filter_cons, if_neg (by simpa using c21_6), List.filter_nil]; simp only [List.length_append, List.length_nil]; omega), (by omega), getV [undef, undef, undef, undef, (y158 4), undef, undef, undef, undef, undef, undef, undef, undef, undef, undef, undef, undef, undef, undef, undef, undef, undef, undef, undef, undef, undef, undef, undef, undef, undef, undef, undef, undef, undef, undef, undef, undef, undef, undef, undef, undef, undef, undef, undef, undef, undef, undef, undef, undef, undef, undef, undef, undef, undef, undef, undef, undef, undef, undef, undef, undef, undef, undef, undef, undef, undef, undef, undef, undef, undef, undef, undef, undef, undef, undef, undef, undef, undef, undef, undef, undef, undef, undef, undef, undef, undef, undef, undef, undef, undef, undef, undef, undef, undef, undef, undef, undef, undef, undef, undef, undef, undef, undef, undef, undef, undef, undef, undef, undef, undef, undef, undef, undef, undef, undef, undef, undef, undef, undef, undef, undef, undef, undef, undef, undef, undef, undef, undef, undef, .int .i64 (u), .slice a_u (ro_u.length) c_u, .int .i64 (((ro_u.length : Nat) : Int)), .bool true, .int .i64 (u), .int .i64 (u + 1), .slice a_u (ro_u.length) c_u, .int .i64 (u), .pointer (some ⟨b160, o161, none⟩), .pointer (some ⟨b160, o161, none⟩), .string (y_x167.1), .string (ten), .bool true, (y158 142), (y158 143), (y158 144), (y158 145), (y158 146), (y158 147), (y158 148), (y158 149), (y158 150), (y158 151), (y158 152), (y158 153), (y158 154), (y158 155), (y158 156), (y158 157), (y158 158), (y158 159), (y158 160), (y158 161), (y158 162), (y158 163), (y158 164), (y158 165), (y158 166), (y158 167), (y158 168), (y158 169), (y158 170), (y158 171), (y158 172), (y158 173), (y158 174), (y158 175), (y158 176), (y158 177), (y158 178), (y158 179)], rfl⟩
    ·rw [decide_eq_false c19_3]
     refine AWp.condF rfl rfl ?_
     refine AWp.exit ?_
     refine AWp.seq (AWp.rowV (l := _) pok ?_)
     refine sq.c (v := .int .i64 (k)) rfl rfl rfl rfl ?_
     refine sq.c (v := .slice a_w (ro_w.length) c_w) rfl rfl rfl rfl ?_
     refine sq.c (v := .int .i64 (((ro_w.length : Nat) : Int))) rfl rfl (by kernel_rfl) rfl ?_
     refine sq.c (v := .bool (decide (k = (((ro_w.length : Nat) : Int))))) rfl rfl rfl rfl ?_
     refine sq.c (v := .bool (decide (k = (((ro_w.length : Nat) : Int))))) rfl rfl rfl rfl ?_
     refine sq.e ?_
     refine AWp.ret ?_
     refine ⟨rfl, [.bool (decide (k = (((ro_w.length : Nat) : Int))))], rfl, .bool (decide (k = (((ro_w.length : Nat) : Int)))), rfl, hs, hn, ?_⟩
     exact congrArg Value.bool (decide_eq_true (by rw [hk, show u.toNat = (allV P.S).length by omega, List.take_length, ← all_apart hpr hPi hQi, hrw]))
end Go.Proofs.YtkpaklofdkjinaaDoor
namespace Go.Proofs.YtkpaklofdkjinaaDoor
open Go Go.Abs Go.ChangeShapes Go.RowKit Go.WideShapes
set_option maxRecDepth 100000
set_option maxHeartbeats 1000000
theorem exists_list {α : Type} {Q : Nat → α → Prop} : ∀ (len : Nat), (∀ i, i < len → ∃ x, Q i x) → ∃ ls : List α, ls.length = len ∧ ∀ i x, ls[i]? = some x → Q i x := by
  intro len
  induction len with
  | zero => intro _; exact ⟨[], rfl, fun i x h => by simp at h⟩
  | succ len ih =>
    intro h
    obtain ⟨ls, hl, hq⟩ := ih fun i hi => h i (by omega)
    obtain ⟨x, hx⟩ := h len (by omega)
    refine ⟨ls ++ [x], by simp [hl], fun i y hy => ?_⟩
    by_cases hi : i < ls.length
    · rw [List.getElem?_append_left hi] at hy; exact hq i y hy
    · rw [List.getElem?_append_right (by omega)] at hy
      have : i - ls.length = 0 := by
        cases hc : i - ls.length with
        | zero => rfl
        | succ k => rw [hc] at hy; simp at hy
      rw [this] at hy
      simp at hy
      subst hy
      rw [show i = len by omega]
      exact hx
theorem choose_list {β γ : Type} {O : β → γ → Prop} {bs : List β} (h : ∀ b ∈ bs, ∃ c, O b c) : ∃ cs : List γ, cs.length = bs.length ∧ ∀ (i : Nat) b c, bs[i]? = some b → cs[i]? = some c → O b c := by
  obtain ⟨cs, hl, hq⟩ := exists_list (Q := fun i c => ∀ b, bs[i]? = some b → O b c) bs.length fun i hi => by
    obtain ⟨c, hc⟩ := h _ (List.getElem_mem hi)
    refine ⟨c, fun b hb => ?_⟩
    rw [List.getElem?_eq_getElem hi] at hb
    cases hb; exact hc
  exact ⟨cs, hl, fun i b c hb hc => hq i c hc b hb⟩
theorem row_cell {α : Type} (E : Enc α) {xs : List α} {i : Nat} {y : Value} (h : (E.row xs)[i]? = some y) : ∃ x, xs[i / E.k]? = some x ∧ (E.cells x)[i % E.k]? = some y ∧ i / E.k < xs.length := by
  have hi := (List.getElem?_eq_some_iff.1 h).1
  rw [E.row_length] at hi
  have hq : i / E.k < xs.length := by rw [Nat.div_lt_iff_lt_mul E.pos, Nat.mul_comm]; exact hi
  refine ⟨xs[i / E.k], List.getElem?_eq_getElem hq, ?_, hq⟩
  have hr : i % E.k < (E.cells xs[i / E.k]).length := by rw [E.len]; exact Nat.mod_lt _ E.pos
  have e := E.row_get xs (i / E.k) _ (List.getElem?_eq_getElem hq) (i % E.k) _ (List.getElem?_eq_getElem hr)
  rw [Nat.div_add_mod] at e
  rw [h] at e
  rw [List.getElem?_eq_getElem hr]
  exact e.symm
def OSl {α : Type} (E : Enc α) (W : World) (v : Value) (ls : List α) : Prop :=
  (v = .slice none 0 0 ∧ ls = []) ∨ (∃ a, v = .slice (some a) 0 0 ∧ ls = []) ∨
  ∃ (bk off cap : Nat) (c : Array Value) (el : TypeId) (fr : Nat × Nat), v = .slice (some ⟨bk, off, none⟩) ls.length cap ∧ ls.length ≤ cap ∧ cap ≤ maxLen ∧ W.heap[bk]? = some (.cells c el fr) ∧ off + E.k * ls.length ≤ c.size ∧ ∀ i y, (E.row ls)[i]? = some y → c[off + i]? = some y
theorem cell_at {W : World} {a : Addr} {z : Value} (h : W.cell? a = some z) : ∃ bk off c el fr, a = ⟨bk, off, none⟩ ∧ W.heap[bk]? = some (.cells c el fr) ∧ off < c.size := by
  have hs := World.cell?_spot h
  obtain ⟨bk, off, sp⟩ := a
  simp only at hs
  subst hs
  unfold World.cell? at h
  split at h
  · rename_i c el fr hh
    simp at h
    exact ⟨bk, off, c, el, fr, rfl, hh, (Array.getElem?_eq_some_iff.1 h).1⟩
  · cases h
theorem cells_at {W : World} {base n : Nat} {a : Addr} {cs : List Value} (h : W.cells? base a n = some cs) : ∀ j, j < n → ∃ z, cs[j]? = some z ∧ W.cell? (a.add j) = some z := by
  intro j hj
  unfold World.cells? at h
  split at h
  · exact Lib.mapM_at h j j (by rw [List.getElem?_range hj])
  · cases h
theorem open_sl {α : Type} {E : Enc α} {Q : α → Prop} {H : Type} {enc : TypeId × Value → H} {W : World} {base : Nat} {held : Bool} {t e : TypeId} (ut : Tryd.prog.underlying t = some (.slice e)) (hk : Tryd.prog.cellsOf e = E.k)
    (one : ∀ {n : Nat} {cs : List Value} {x : DataW H × List MemPlace}, DataW.trod enc Tryd.prog W base (fun _ => true) held n e cs = some x → ∃ a : α, cs = E.cells a ∧ Q a)
    {fuel : Nat} {v : Value} {x : DataW H × List MemPlace} (h : DataW.trod enc Tryd.prog W base (fun _ => true) held fuel t [v] = some x) : ∃ ls, OSl E W v ls ∧ ∀ a ∈ ls, Q a := by
  rcases DataW.trod_slice ut h with ⟨h1, _⟩ | ⟨a, len, cap, elems, rest, n, rfl, h1, _, _, hl, hm, hlen, hel, hr, _⟩
  · cases h1
    exact ⟨[], .inl ⟨rfl, rfl⟩, fun a ha => by cases ha⟩
  · cases h1
    by_cases hc : cap = 0
    · have h0 : len = 0 := by omega
      subst hc; subst h0
      exact ⟨[], .inr (.inl ⟨a, rfl, rfl⟩), fun a ha => by cases ha⟩
    · rw [hk] at hel
      obtain ⟨hr1, hr2⟩ := hr rfl
      rw [hk] at hr2
      have hkp := E.pos
      have add0 : a.add 0 = a := by unfold Addr.add; rfl
      have key : ∃ z, W.cell? a = some z := by
        by_cases h0 : len = 0
        · have e1 := hr2 0 (by omega)
          obtain ⟨y, hy⟩ : ∃ y, rest[0]? = some y := ⟨rest[0]'(by omega), List.getElem?_eq_getElem _⟩
          rw [hy, Option.bind_eq_some_iff] at e1
          obtain ⟨cs, hcs, _⟩ := e1
          obtain ⟨z, _, hz⟩ := cells_at hcs 0 hkp
          rw [h0, Nat.zero_add, Nat.zero_mul, add0, add0] at hz
          exact ⟨z, hz⟩
        · have e1 := hel 0 (by omega)
          obtain ⟨y, hy⟩ : ∃ y, elems[0]? = some y := ⟨elems[0]'(by omega), List.getElem?_eq_getElem _⟩
          rw [hy, Option.bind_eq_some_iff] at e1
          obtain ⟨cs, hcs, _⟩ := e1
          obtain ⟨z, _, hz⟩ := cells_at hcs 0 hkp
          rw [Nat.zero_mul, add0, add0] at hz
          exact ⟨z, hz⟩
      obtain ⟨z, hz⟩ := key
      obtain ⟨bk, off, c, el, fr, rfl, hheap, hoff⟩ := cell_at hz
      have hcell : ∀ i, i < len → ∃ x : α, Q x ∧ ∀ j y, (E.cells x)[j]? = some y → c[off + (E.k * i + j)]? = some y := by
        intro i hi
        have h2 := hel i hi
        obtain ⟨y, hy⟩ : ∃ y, elems[i]? = some y := ⟨elems[i]'(by omega), List.getElem?_eq_getElem _⟩
        rw [hy, Option.bind_eq_some_iff] at h2
        obtain ⟨cs, hcs, htr⟩ := h2
        obtain ⟨x, rfl, hx⟩ := one htr
        refine ⟨x, hx, fun j y hj => ?_⟩
        have hjl : j < E.k := by have := (List.getElem?_eq_some_iff.1 hj).1; rw [E.len] at this; exact this
        obtain ⟨z, f0, g0⟩ := cells_at hcs j hjl
        rw [hj] at f0
        cases f0
        rw [Addr.add_plain, Addr.add_plain, cell_of_block hheap] at g0
        rw [← g0]; congr 1; rw [Nat.mul_comm]; omega
      obtain ⟨ls, hll, hq⟩ := exists_list len hcell
      subst hll
      have hcells : ∀ i y, (E.row ls)[i]? = some y → c[off + i]? = some y := by
        intro i y hy
        obtain ⟨x, hx, hj, _⟩ := row_cell E hy
        have := (hq _ _ hx).2 _ _ hj
        rw [Nat.div_add_mod] at this
        exact this
      refine ⟨ls, .inr (.inr ⟨bk, off, cap, c, el, fr, rfl, hl, hm, hheap, ?_, hcells⟩), fun x hx => ?_⟩
      · rcases Nat.eq_zero_or_pos (E.k * ls.length) with h0 | h0
        · omega
        · have hlt : E.k * ls.length - 1 < (E.row ls).length := by rw [E.row_length]; omega
          have := hcells _ _ (List.getElem?_eq_getElem hlt)
          have := (Array.getElem?_eq_some_iff.1 this).1
          omega
      · obtain ⟨i, hi⟩ := List.getElem?_of_mem hx
        exact (hq i x hi).1
theorem add_sl {α β : Type} (E : Enc α) (E' : Enc β) (hkk : E.k = E'.k) {μ : Mu} {h : Heap} {n : Nat} {W : World} {v : Value} {ws : List β} (hr : Rel Tryd.prog μ h n W) (ro : ∀ b o, h.get b = some o → o.excl = false) (o : OSl E' W v ws)
    {xs : List α} (hlen : xs.length = ws.length) (hrel : ∀ (i : Nat) y y', (E.row xs)[i]? = some y → (E'.row ws)[i]? = some y' → VRel μ y y') :
    ∃ (μ' : Mu) (h' : Heap) (n' : Nat) (a : Option Addr) (cp : Nat), Rel Tryd.prog μ' h' n' W ∧ (∀ b o, h'.get b = some o → o.excl = false) ∧ h.sub h' ∧ μ.le μ' ∧ VRel μ' (.slice a xs.length cp) v ∧ FRow E h' (.slice a xs.length cp) xs ∧ xs.length < 9223372036854775808 ∧ xs.length ≤ cp ∧ cp < U := by
  rcases o with ⟨rfl, rfl⟩ | ⟨a, rfl, rfl⟩ | ⟨bk, off, cap, c, el, fr, rfl, hlc, hcm, hb, hoff, hcells⟩
  · obtain rfl : xs = [] := List.eq_nil_of_length_eq_zero hlen
    exact ⟨μ, h, n, none, 0, hr, ro, Heap.sub_refl _, μ.le_refl, .snil, .nil, by simp, by simp, by decide⟩
  · obtain rfl : xs = [] := List.eq_nil_of_length_eq_zero hlen
    exact ⟨μ, h, n, some ⟨0, 0, none⟩, 0, hr, ro, Heap.sub_refl _, μ.le_refl, .szero _ _ _, .inl ⟨rfl, .inr ⟨0, 0, 0, rfl⟩⟩, by simp, by simp, by decide⟩
  · have hl1 : (E.row xs).length = E'.k * ws.length := by rw [E.row_length, hkk, hlen]
    have hle : μ.le (μ.set n ⟨bk, off, c.size, 0⟩) := by
      intro b m hbm
      unfold Mu.set
      by_cases e : b = n
      · subst e; rw [hr.bound _ (Nat.le_refl _)] at hbm; cases hbm
      · simp [e, hbm]
    obtain ⟨hr1, ro1⟩ := hr.addRO ro (o := .cells (E.row xs) false ⟨el, 0, false⟩) (x := .cells c el fr) (m := ⟨bk, off, c.size, 0⟩) rfl hb
      ⟨rfl, by rw [hl1]; exact hoff, fun i y hy => by
        have hi : i < (E'.row ws).length := by rw [E'.row_length, ← hl1]; exact (List.getElem?_eq_some_iff.1 hy).1
        exact ⟨(E'.row ws)[i], hcells _ _ (List.getElem?_eq_getElem hi), (hrel i y _ hy (List.getElem?_eq_getElem hi)).mono hle⟩, by simp, rfl, rfl, by simp⟩
    have hmax : maxLen < U := by decide
    have hm : xs.length < 9223372036854775808 := by rw [hlen]; exact Nat.lt_of_le_of_lt (Nat.le_trans hlc hcm) (by decide)
    have hf : Free h n := fun b hb => hr.below hb
    refine ⟨_, _, _, some ⟨n, 0, none⟩, cap, hr1, ro1, sub_alloc hf, hle, ?_, ?_, hm, by rw [hlen]; exact hlc, Nat.lt_of_le_of_lt hcm hmax⟩
    · rw [hlen]
      exact VRel.slice (b := n) 0 ws.length cap cap (Mu.set_same _ _ _) (.inl ⟨by omega, rfl⟩)
    · refine .inr ⟨n, 0, cap, _, ⟨el, 0, false⟩, rfl, by rw [hlen]; exact hlc, Trie.get_set_same _ _ _, ?_, ?_⟩
      · rw [List.drop_zero, ← E.row_length, List.take_length]
      · rw [E.row_length]; omega
theorem row_rel {α β : Type} (E : Enc α) (E' : Enc β) (hkk : E.k = E'.k) {μ : Mu} {xs : List α} {ws : List β} (h : ∀ (i : Nat) a b, xs[i]? = some a → ws[i]? = some b → ∀ (j : Nat) y y', (E.cells a)[j]? = some y → (E'.cells b)[j]? = some y' → VRel μ y y') :
    ∀ (i : Nat) y y', (E.row xs)[i]? = some y → (E'.row ws)[i]? = some y' → VRel μ y y' := fun i y y' hy hy' => by
  obtain ⟨x, hx, hj, _⟩ := row_cell E hy
  obtain ⟨w, hw, hj', _⟩ := row_cell E' hy'
  rw [hkk] at hx hj
  exact h _ _ _ hx hw _ _ _ hj hj'
theorem row_flat {α : Type} (E : Enc α) (hfl : ∀ x, ((E.cells x).all flat) = true) {μ : Mu} {xs : List α} : ∀ (i : Nat) y y', (E.row xs)[i]? = some y → (E.row xs)[i]? = some y' → VRel μ y y' := fun i y y' hy hy' => by
  rw [hy] at hy'
  cases hy'
  obtain ⟨x, _, hj, _⟩ := row_cell E hy
  exact .flat_self (List.all_eq_true.1 (hfl x) y (List.mem_of_getElem? hj))
theorem add_list {β γ α : Type} {W : World} (O : β → γ → Prop) (R : Mu → α → β → Prop) (Fa : Heap → α → γ → Prop) (hRm : ∀ μ μ' a b, μ.le μ' → R μ a b → R μ' a b) (hFm : ∀ (h h' : Heap) a c, h.sub h' → Fa h a c → Fa h' a c)
    (one : ∀ (μ : Mu) (h : Heap) (n : Nat) b c, Rel Tryd.prog μ h n W → (∀ b o, h.get b = some o → o.excl = false) → O b c → ∃ (μ' : Mu) (h' : Heap) (n' : Nat) (a : α), Rel Tryd.prog μ' h' n' W ∧ (∀ b o, h'.get b = some o → o.excl = false) ∧ h.sub h' ∧ μ.le μ' ∧ R μ' a b ∧ Fa h' a c) :
    ∀ (bs : List β) (cs : List γ) (μ : Mu) (h : Heap) (n : Nat), cs.length = bs.length → (∀ (i : Nat) b c, bs[i]? = some b → cs[i]? = some c → O b c) → Rel Tryd.prog μ h n W → (∀ b o, h.get b = some o → o.excl = false) →
      ∃ (μ' : Mu) (h' : Heap) (n' : Nat) (az : List α), Rel Tryd.prog μ' h' n' W ∧ (∀ b o, h'.get b = some o → o.excl = false) ∧ h.sub h' ∧ μ.le μ' ∧ az.length = bs.length ∧ (∀ (i : Nat) a b, az[i]? = some a → bs[i]? = some b → R μ' a b) ∧ (∀ (i : Nat) a c, az[i]? = some a → cs[i]? = some c → Fa h' a c) := by
  intro bs
  induction bs with
  | nil =>
    intro cs μ h n hl hO hr ro
    exact ⟨μ, h, n, [], hr, ro, Heap.sub_refl _, μ.le_refl, rfl, (fun i a b ha => by simp at ha), (fun i a b ha => by simp at ha)⟩
  | cons b bs ih =>
    intro cs μ h n hl hO hr ro
    cases cs with
    | nil => simp at hl
    | cons c cs =>
      obtain ⟨m1, k1, n1, a, r1, ro1, s1, l1, x1, y1⟩ := one μ h n b c hr ro (hO 0 b c rfl rfl)
      obtain ⟨m2, k2, n2, az, r2, ro2, s2, l2, e2, x2, y2⟩ := ih cs m1 k1 n1 (by simpa using hl) (fun i b c hb hc => hO (i + 1) b c (by simpa using hb) (by simpa using hc)) r1 ro1
      refine ⟨m2, k2, n2, a :: az, r2, ro2, Heap.sub_trans s1 s2, Mu.le_trans l1 l2, by simp [e2], fun i a' b' ha hb => ?_, fun i a' c' ha hc => ?_⟩
      · cases i with
        | zero => simp at ha hb; subst ha; subst hb; exact hRm _ _ _ _ l2 x1
        | succ i => exact x2 i a' b' (by simpa using ha) (by simpa using hb)
      · cases i with
        | zero => simp at ha hc; subst ha; subst hc; exact hFm _ _ _ _ s2 y1
        | succ i => exact y2 i a' c' (by simpa using ha) (by simpa using hc)
/-! Series, batches. -/
def OSer (W : World) (r : RSer) (s : Ser) : Prop := OSl encLab W r.1 s.1 ∧ OSl encSmp W r.2 s.2
def OSers (W : World) (v : Value) (ss : List Ser) : Prop := ∃ ws, OSl encSer W v ws ∧ ss.length = ws.length ∧ ∀ (i : Nat) r s, ws[i]? = some r → ss[i]? = some s → OSer W r s
def OBat (W : World) (r : RBat) (b : Bat) : Prop := r.ten = b.ten ∧ r.clu = b.clu ∧ r.epo = b.epo ∧ OSers W r.ser b.ser
def OBats (W : World) (v : Value) (bs : List Bat) : Prop := ∃ ws, OSl encBat W v ws ∧ bs.length = ws.length ∧ ∀ (i : Nat) r b, ws[i]? = some r → bs[i]? = some b → OBat W r b
section
variable {H : Type} {enc : TypeId × Value → H} {W : World} {base : Nat} {held : Bool}
theorem ut_str : Tryd.prog.underlying 9 = some .string := by kernel_rfl
theorem open_lab {n : Nat} {cs : List Value} {x : DataW H × List MemPlace} (h : DataW.trod enc Tryd.prog W base (fun _ => true) held n 61 cs = some x) : ∃ a : Lab, cs = encLab.cells a ∧ True := by
  obtain ⟨y0, y1, n, _, hl, h0, h1⟩ := trod_struct2 Tryd.underlying61 h
  rw [show Tryd.prog.cellsOf 61 = 2 by kernel_rfl] at hl
  match cs, hl with
  | [a, b], _ =>
    obtain ⟨s, hs, _⟩ := DataW.trod_string ut_str h0
    obtain ⟨t, ht, _⟩ := DataW.trod_string ut_str h1
    rw [show Tryd.prog.cellsOf 9 = 1 by kernel_rfl] at hs ht
    have hs' : [a] = [Value.string s] := hs
    have ht' : [b] = [Value.string t] := ht
    cases hs'; cases ht'
    exact ⟨(s, t), rfl, trivial⟩
theorem open_smp {n : Nat} {cs : List Value} {x : DataW H × List MemPlace} (h : DataW.trod enc Tryd.prog W base (fun _ => true) held n 53 cs = some x) : ∃ a : Samp, cs = encSmp.cells a ∧ True := by
  obtain ⟨y0, y1, n, _, hl, h0, h1⟩ := trod_struct2 Tryd.underlying53 h
  rw [show Tryd.prog.cellsOf 53 = 2 by kernel_rfl] at hl
  match cs, hl with
  | [a, b], _ =>
    obtain ⟨s, hs, _⟩ := DataW.trod_int (k := .i64) (by kernel_rfl) h0
    obtain ⟨t, ht, _⟩ := DataW.trod_int (k := .u64) (by kernel_rfl) h1
    rw [show Tryd.prog.cellsOf 2 = 1 by kernel_rfl] at hs
    rw [show Tryd.prog.cellsOf 51 = 1 by kernel_rfl] at ht
    have hs' : [a] = [Value.int .i64 s] := hs
    have ht' : [b] = [Value.int .u64 t] := ht
    cases hs'; cases ht'
    exact ⟨(s, t), rfl, trivial⟩
theorem open_ser {n : Nat} {cs : List Value} {x : DataW H × List MemPlace} (h : DataW.trod enc Tryd.prog W base (fun _ => true) held n 43 cs = some x) : ∃ a : RSer, cs = encSer.cells a ∧ ∃ s : Ser, OSer W a s := by
  obtain ⟨y0, y1, n, _, hl, h0, h1⟩ := trod_struct2 Tryd.underlying43 h
  rw [show Tryd.prog.cellsOf 43 = 2 by kernel_rfl] at hl
  match cs, hl with
  | [a, b], _ =>
    rw [show Tryd.prog.cellsOf 40 = 1 by kernel_rfl] at h0
    rw [show Tryd.prog.cellsOf 41 = 1 by kernel_rfl] at h1
    obtain ⟨ls, o1, _⟩ := open_sl (E := encLab) (Q := fun _ => True) Tryd.underlying40 (by kernel_rfl) open_lab (v := a) h0
    obtain ⟨xs, o2, _⟩ := open_sl (E := encSmp) (Q := fun _ => True) Tryd.underlying41 (by kernel_rfl) open_smp (v := b) h1
    exact ⟨(a, b), rfl, (ls, xs), o1, o2⟩
theorem open_sers {n : Nat} {v : Value} {x : DataW H × List MemPlace} (h : DataW.trod enc Tryd.prog W base (fun _ => true) held n 29 [v] = some x) : ∃ ss, OSers W v ss := by
  obtain ⟨ws, o, q⟩ := open_sl (E := encSer) (Q := fun a => ∃ s, OSer W a s) Tryd.underlying29 (by kernel_rfl) open_ser h
  obtain ⟨ss, hl, hq⟩ := choose_list q
  exact ⟨ss, ws, o, hl, hq⟩
theorem open_bat {n : Nat} {cs : List Value} {x : DataW H × List MemPlace} (h : DataW.trod enc Tryd.prog W base (fun _ => true) held n 31 cs = some x) : ∃ a : RBat, cs = encBat.cells a ∧ ∃ b : Bat, OBat W a b := by
  obtain ⟨xs, n, _, _, hl, hxl, hall⟩ := DataW.trod_struct Tryd.underlying31 h
  rw [show Tryd.prog.cellsOf 31 = 4 by kernel_rfl] at hl
  match cs, hl, xs, hxl with
  | [a, b, c, d], _, [y0, y1, y2, y3], _ =>
    have h0 := hall 0 _ rfl
    have h1 := hall 1 _ rfl
    have h2 := hall 2 _ rfl
    have h3 := hall 3 _ rfl
    have k0 : DataW.trod enc Tryd.prog W base (fun _ => true) held n 9 (([a, b, c, d].drop 0).take (Tryd.prog.cellsOf 9)) = some y0 := h0
    have k1 : DataW.trod enc Tryd.prog W base (fun _ => true) held n 9 (([a, b, c, d].drop 1).take (Tryd.prog.cellsOf 9)) = some y1 := h1
    have k2 : DataW.trod enc Tryd.prog W base (fun _ => true) held n 2 (([a, b, c, d].drop 2).take (Tryd.prog.cellsOf 2)) = some y2 := h2
    have k3 : DataW.trod enc Tryd.prog W base (fun _ => true) held n 29 (([a, b, c, d].drop 3).take (Tryd.prog.cellsOf 29)) = some y3 := h3
    rw [show Tryd.prog.cellsOf 9 = 1 by kernel_rfl] at k0 k1
    rw [show Tryd.prog.cellsOf 2 = 1 by kernel_rfl] at k2
    rw [show Tryd.prog.cellsOf 29 = 1 by kernel_rfl] at k3
    obtain ⟨s, hs, _⟩ := DataW.trod_string ut_str k0
    obtain ⟨t, ht, _⟩ := DataW.trod_string ut_str k1
    obtain ⟨e, he, _⟩ := DataW.trod_int (k := .i64) (by kernel_rfl) k2
    obtain ⟨ss, o⟩ := open_sers (v := d) k3
    have hs' : [a] = [Value.string s] := hs
    have ht' : [b] = [Value.string t] := ht
    have he' : [c] = [Value.int .i64 e] := he
    cases hs'; cases ht'; cases he'
    exact ⟨⟨s, t, e, d⟩, rfl, ⟨s, t, e, ss⟩, rfl, rfl, rfl, o⟩
theorem open_bats {n : Nat} {v : Value} {x : DataW H × List MemPlace} (h : DataW.trod enc Tryd.prog W base (fun _ => true) held n 22 [v] = some x) : ∃ bs, OBats W v bs := by
  obtain ⟨ws, o, q⟩ := open_sl (E := encBat) (Q := fun a => ∃ b, OBat W a b) Tryd.underlying22 (by kernel_rfl) open_bat h
  obtain ⟨bs, hl, hq⟩ := choose_list q
  exact ⟨bs, ws, o, hl, hq⟩
end
theorem flat_lab (x : Lab) : ((encLab.cells x).all flat) = true := by
  simp only [encLab, List.all_cons, List.all_nil, Bool.and_true, Bool.and_eq_true]
  exact ⟨rfl, rfl⟩
theorem flat_smp (x : Samp) : ((encSmp.cells x).all flat) = true := by
  simp only [encSmp, List.all_cons, List.all_nil, Bool.and_true, Bool.and_eq_true]
  exact ⟨rfl, rfl⟩
section
variable {μ : Mu} {h : Heap} {n : Nat} {W : World} {v : Value}
theorem add_sers (hr : Rel Tryd.prog μ h n W) (ro : ∀ b o, h.get b = some o → o.excl = false) {ss : List Ser} (o : OSers W v ss) :
    ∃ (μ' : Mu) (h' : Heap) (n' : Nat) (a : Option Addr) (cp : Nat) (rs : List RSer), Rel Tryd.prog μ' h' n' W ∧ (∀ b o, h'.get b = some o → o.excl = false) ∧ h.sub h' ∧ μ.le μ' ∧ VRel μ' (.slice a rs.length cp) v ∧ FRow encSer h' (.slice a rs.length cp) rs ∧ FSers h' rs ss ∧ rs.length < 9223372036854775808 := by
  obtain ⟨ws, o1, hl, hO⟩ := o
  obtain ⟨m1, k1, n1, az, r1, ro1, s1, l1, e1, x1, y1⟩ := add_list (α := RSer) (W := W) (OSer W) (fun μ (a : RSer) (b : RSer) => VRel μ a.1 b.1 ∧ VRel μ a.2 b.2) FSer (fun μ μ' a b l q => ⟨q.1.mono l, q.2.mono l⟩) (fun h h' a c s q => q.keep (.sub s)) (fun μ h n b c hr ro q => by
    obtain ⟨m1, k1, n1, a1, p1, r1, ro1, s1, l1, x1, y1, _⟩ := add_sl encLab encLab rfl hr ro q.1 rfl (row_flat encLab flat_lab)
    obtain ⟨m2, k2, n2, a2, p2, r2, ro2, s2, l2, x2, y2, _⟩ := add_sl encSmp encSmp rfl r1 ro1 q.2 rfl (row_flat encSmp flat_smp)
    exact ⟨m2, k2, n2, (.slice a1 c.1.length p1, .slice a2 c.2.length p2), r2, ro2, Heap.sub_trans s1 s2, Mu.le_trans l1 l2, ⟨x1.mono l2, x2⟩, y1.keep (.sub s2), y2⟩) ws ss μ h n hl hO hr ro
  obtain ⟨m2, k2, n2, a, cp, r2, ro2, s2, l2, x2, y2, z2, _⟩ := add_sl encSer encSer rfl r1 ro1 o1 e1 (row_rel encSer encSer rfl fun i a b ha hb j y y' hy hy' => by
    have q := x1 i a b ha hb
    match j, hy, hy' with
    | 0, hy, hy' => cases hy; cases hy'; exact q.1
    | 1, hy, hy' => cases hy; cases hy'; exact q.2
    | j + 2, hy, _ => simp [encSer] at hy)
  exact ⟨m2, k2, n2, a, cp, az, r2, ro2, Heap.sub_trans s1 s2, Mu.le_trans l1 l2, x2, y2, ⟨by rw [e1, hl], fun i r s a b => (y1 i r s a b).keep (.sub s2)⟩, z2⟩
theorem add_bats (hr : Rel Tryd.prog μ h n W) (ro : ∀ b o, h.get b = some o → o.excl = false) {bs : List Bat} (o : OBats W v bs) :
    ∃ (μ' : Mu) (h' : Heap) (n' : Nat) (a : Option Addr) (cp : Nat) (rs : List RBat), Rel Tryd.prog μ' h' n' W ∧ (∀ b o, h'.get b = some o → o.excl = false) ∧ h.sub h' ∧ μ.le μ' ∧ VRel μ' (.slice a rs.length cp) v ∧ FRow encBat h' (.slice a rs.length cp) rs ∧ FBats h' rs bs ∧ rs.length < 9223372036854775808 := by
  obtain ⟨ws, o1, hl, hO⟩ := o
  obtain ⟨m1, k1, n1, az, r1, ro1, s1, l1, e1, x1, y1⟩ := add_list (α := RBat) (W := W) (OBat W) (fun μ (a : RBat) (b : RBat) => a.ten = b.ten ∧ a.clu = b.clu ∧ a.epo = b.epo ∧ VRel μ a.ser b.ser) FBat (fun μ μ' a b l q => ⟨q.1, q.2.1, q.2.2.1, q.2.2.2.mono l⟩) (fun h h' a c s q => q.keep (.sub s)) (fun μ h n b c hr ro q => by
    obtain ⟨m1, k1, n1, a1, p1, rs, r1, ro1, s1, l1, x1, y1, z1, _⟩ := add_sers hr ro q.2.2.2
    exact ⟨m1, k1, n1, ⟨b.ten, b.clu, b.epo, .slice a1 rs.length p1⟩, r1, ro1, s1, l1, ⟨rfl, rfl, rfl, x1⟩, q.1, q.2.1, q.2.2.1, rs, y1, z1⟩) ws bs μ h n hl hO hr ro
  obtain ⟨m2, k2, n2, a, cp, r2, ro2, s2, l2, x2, y2, z2, _⟩ := add_sl encBat encBat rfl r1 ro1 o1 e1 (row_rel encBat encBat rfl fun i a b ha hb j y y' hy hy' => by
    obtain ⟨q1, q2, q3, q4⟩ := x1 i a b ha hb
    match j, hy, hy' with
    | 0, hy, hy' => cases hy; cases hy'; rw [q1]; exact .string _
    | 1, hy, hy' => cases hy; cases hy'; rw [q2]; exact .string _
    | 2, hy, hy' => cases hy; cases hy'; rw [q3]; exact .int _ _
    | 3, hy, hy' => cases hy; cases hy'; exact q4
    | j + 4, hy, _ => simp [encBat] at hy)
  exact ⟨m2, k2, n2, a, cp, az, r2, ro2, Heap.sub_trans s1 s2, Mu.le_trans l1 l2, x2, y2, ⟨by rw [e1, hl], fun i r s a b => (y1 i r s a b).keep (.sub s2)⟩, z2⟩
end
theorem law_calls {W : World} {f : FuncId} {args args' : Array Value} {μ : Mu} {h : Heap} {n : Nat} (ro : ∀ b o, h.get b = some o → o.excl = false) (hr : Rel Tryd.prog μ h n W) (ha : ARel μ args args') (c : Tells Tryd.prog f args.toList h n (.bool true)) :
    Calls Tryd.prog f args' W fun e W' => e = .returned (.bool true) ∧ Below W.heap.size W W' :=
  calls_of_acall ro hr ha rfl (ACall.mono c fun _ h' _ _ _ ⟨e, _, _⟩ => ⟨h', Heap.sub_refl _, e⟩)
end Go.Proofs.YtkpaklofdkjinaaDoor
