/- texts of the claim, part 8: FenT11 FenOpn. -/
import Derived.Test.YtkpaklofdkjinaaDoorPs7
import Derived.SevenTiedAt
import Derived.ChangeSame
set_option linter.unusedVariables false
set_option linter.unusedSimpArgs false
set_option linter.unusedSectionVars false
namespace Go.Proofs.YtkpaklofdkjinaaDoor
open Go Go.Abs Go.RowKit Go.Shelf
set_option maxRecDepth 100000
set_option maxHeartbeats 8000000
/-! Batches, put to a row. -/
abbrev HBat := ByteArray × ByteArray × Int × Hdr
def encBatO : Enc HBat := ⟨4, fun x => [.string x.1, .string x.2.1, .int .i64 x.2.2.1, hdV x.2.2.2], fun _ => rfl, by decide⟩
theorem appBatO : AppT Tryd.prog encBatO 22 31 64 := ⟨by kernel_rfl, by kernel_rfl, by kernel_rfl, fun _ => rfl⟩
def batV (x : HBat) : RBat := ⟨x.1, x.2.1, x.2.2.1, hdV x.2.2.2⟩
theorem FBats.nil (h : Heap) : FBats h [] [] := ⟨rfl, fun i r s a => by simp at a⟩
theorem FBats.snocO {h : Heap} {rs : List HBat} {bs : List Bat} {r : HBat} {b : Bat} (q : FBats h (rs.map batV) bs) (f : FBat h (batV r) b) : FBats h ((rs ++ [r]).map batV) (bs ++ [b]) := by
  have hl : rs.length = bs.length := by simpa using q.1
  refine ⟨by simp [hl], fun i r' s' x y => ?_⟩
  rw [List.map_append] at x
  rcases Nat.lt_or_ge i rs.length with hi | hi
  · rw [List.getElem?_append_left (by simpa using hi)] at x
    rw [List.getElem?_append_left (by rw [← hl]; exact hi)] at y
    exact q.2 i r' s' x y
  · rw [List.getElem?_append_right (by simpa using hi)] at x
    rw [List.getElem?_append_right (by rw [← hl]; exact hi), ← hl] at y
    rw [List.length_map] at x
    have : i - rs.length = 0 := by have := (List.getElem?_eq_some_iff.1 x).1; simp at this; omega
    rw [this] at x y
    simp at x y
    subst x; subst y
    exact f
theorem FBats.atO {h : Heap} {rs : List HBat} {bs : List Bat} {i : Nat} {r : HBat} (q : FBats h (rs.map batV) bs) (hr : rs[i]? = some r) : ∃ b, bs[i]? = some b ∧ FBat h (batV r) b := q.at (by rw [List.getElem?_map, hr]; rfl)
theorem said_spec {h : Heap} {n : Nat} {a : Option Addr} {cp : Nat} (rs : List RBat) (bs : List Bat) (hr : FRow encBat h (.slice a rs.length cp) rs) (hd : FBats h rs bs) (hld : Laid0 h) (hlen : rs.length < 9223372036854775808) :
    Tells Tryd.prog 4 [.slice a (rs.length) cp] h n (.bool true) := by
 refine Makes.tells (Makes.free fun hf => ?_)
 have hs : SubBut h h ([]) := .refl _ _
 have hn : n ≤ n := Nat.le_refl _
 have hf0 := hf
 refine Makes.of_bodyV (args := [.slice a (rs.length) cp]) (vs := [.slice a (rs.length) cp, undef, undef, undef, undef, undef, undef, undef, undef, undef, undef, undef, undef, undef, undef, undef, undef, undef, undef, undef, undef, undef, undef, undef, undef, undef, undef, undef, undef, undef, undef, undef, undef, undef, undef, undef, undef, undef, undef, undef, undef, undef, undef, undef, undef, undef, undef, undef, undef, undef, undef, undef, undef, undef, undef, undef, undef, undef, undef, undef, undef, undef, undef, undef, undef, undef, undef, undef, undef, undef, undef, undef, undef, undef, undef, undef, undef, undef, undef, undef, undef, undef, undef, undef, undef, undef, undef, undef, undef, undef, undef, undef, undef, undef, undef, undef, undef, undef, undef, undef, undef, undef, undef, undef, undef, undef, undef, undef, undef, undef, undef, undef, undef, undef, undef, undef, undef, undef, undef, undef, undef, undef, undef, undef, undef, undef, undef, undef, undef, undef, undef, undef, undef, undef, undef, undef, undef, undef, undef, undef, undef, undef, undef, undef, undef, undef, undef, undef, undef, undef, undef, undef, undef, undef, undef, undef, undef, undef, undef, undef, undef, undef, undef, undef, undef, undef, undef, undef, undef, undef, undef, undef, undef, undef, undef, undef, undef, undef, undef, undef, undef, undef, undef, undef, undef, undef, undef, undef, undef, undef, undef, undef, undef, undef, undef, undef, undef, undef, undef, undef, undef, undef, undef, undef, undef]) Tryd.func4 rfl rfl ?_
 refine AWp.seq (AWp.rowV (l := _) pok ?_)
 refine sq.c (v := .bool false) rfl rfl rfl rfl ?_
 refine sq.e (AWp.seq (AWp.seq (AWp.rowV (l := _) pok ?_)))
 refine sq.c (v := .slice a (rs.length) cp) rfl rfl rfl rfl ?_
 refine sq.k rfl (CallsF.fn rfl (by kernel_rfl) rfl rfl) (long_spec _ _ (hr.keep (.of0 hs)).is (hd.keep (.of0 hs)).is hlen) ?_
 rintro _ h1 n2 ⟨z_lo, rfl, hz_lo⟩ s3 hn2 hf
 refine sq.w ?_
 have hs := hs.trans s3
 have hn := Nat.le_trans hn hn2
 refine sq.c (v := .bool (z_lo)) rfl rfl rfl rfl ?_
 rcases Bool.eq_false_or_eq_true (z_lo) with c_lo | c_lo
 ·rw [c_lo]
  refine sq.s (wantF (g := 2) (d := 20) rfl rfl rfl) rfl ?_
  refine sq.s (wantF (g := 2) (d := 20) rfl rfl rfl) rfl ?_
  refine sq.c (v := .bool true) rfl rfl rfl rfl ?_
  refine sq.e ?_
  refine AWp.condT rfl rfl ?_
  refine AWp.seq (AWp.rowV (l := _) pok ?_)
  refine sq.t (v := .bool true) rfl (CallsF.fn rfl (by kernel_rfl) rfl rfl) (fun hf => awake_spec (hld.keep hs)) hf rfl ?_
  intro n4 hn2 hf
  have hn := Nat.le_trans hn hn2
  refine sq.c (v := .bool true) rfl rfl rfl rfl ?_
  refine sq.e ?_
  refine AWp.ret ?_
  refine ⟨rfl, [.bool true], rfl, .bool true, rfl, hs, hn, ?_⟩
  rfl
 ·rw [c_lo]
  refine sq.t (v := .bool true) (wantT (g := 2) (d := 20) rfl rfl rfl) (CallsF.fn rfl (by kernel_rfl) rfl rfl) (fun hf => awake_spec (hld.keep hs)) hf rfl ?_
  intro n5 hn2 hf
  have hn := Nat.le_trans hn hn2
  refine sq.c (v := .bool false) (wantT (g := 2) (d := 20) rfl rfl rfl) rfl rfl rfl ?_
  refine sq.c (v := .bool false) rfl rfl rfl rfl ?_
  refine sq.e ?_
  refine AWp.condF rfl rfl ?_
  refine AWp.skip (AWp.seq (AWp.rowV (l := _) pok ?_))
  refine sq.k rfl (CallsF.fn rfl (by kernel_rfl) rfl rfl) (new_spec) ?_
  rintro _ h6 n7 ⟨bp, fp, gp, rfl, hb_bp, hb_fp, hb_gp, y_bp, y_fp, y_gp, ne_fp_gp⟩ s8 hn2 hf
  have z_fp := sub_none hs y_fp
  have z_gp := sub_none hs y_gp
  change Apt fp gp at ne_fp_gp
  have ne_bp_fp : Apt bp fp := by intro e; rw [e] at hb_bp; rw [hb_bp] at hb_fp; cases hb_fp
  have ne_bp_gp : Apt bp gp := by intro e; rw [e] at hb_bp; rw [hb_bp] at hb_gp; cases hb_gp
  have ok_fp : MOk ([] : FM) 0 := .nil
  have ok_gp : MOk ([] : SM) 0 := .nil
  refine sq.w ?_
  have hs := hs.trans s8
  have hn := Nat.le_trans hn hn2
  have hSp : SMIs h6 ([] : SM) ([] : SP) := SMIs.nil _
  refine sq.c (v := .pointer (some ⟨bp, 0, none⟩)) rfl rfl rfl rfl ?_
  refine sq.e (AWp.seq (AWp.rowV (l := _) pok ?_))
  refine sq.c (v := .slice none (0) (0)) rfl rfl rfl rfl ?_
  refine sq.e (AWp.seq (AWp.seq (AWp.rowV (l := _) pok ?_)))
  refine sq.c (v := .int .i64 (0)) rfl rfl rfl rfl ?_
  refine sq.e (AWp.block ?_)
  have hlo := hz_lo c_lo
  have hb60 := hlo.1
  have hrl : rs.length = bs.length := hd.1
  refine AWp.loopV (fun d vs h10 n11 => ∃ (i : Int) (P : PSt) (Gp : SM) (os : List HBat) (tk : List Bat) (a_o : Option Addr) (cp_o : Nat), d = ((rs.length : Nat) - i + 1).toNat ∧ SubBut h h10 ([]) ∧ n ≤ n11 ∧ Free h10 n11 ∧ h10.get bp = some (.cells [.map (some fp), .map (some gp)] true ⟨69, 0, true⟩) ∧ h10.get fp = some (.map (mapE plV intV P.F) P.kf) ∧ h10.get gp = some (.map (mapE plV ownV Gp) P.kg) ∧ SMIs h10 Gp P.S ∧ FBats h10 (os.map batV) tk ∧ OwnRow encBatO 31 h h10 (.slice a_o (os).length cp_o) (os) ∧ (∀ c ∈ blkOf (.slice a_o (os).length cp_o), c ≠ bp) ∧ (∀ c ∈ blkOf (.slice a_o (os).length cp_o), c ≠ fp) ∧ (∀ c ∈ blkOf (.slice a_o (os).length cp_o), c ≠ gp) ∧ MOk P.F P.kf ∧ MOk Gp P.kg ∧ (0 ≤ i) ∧ (i ≤ (rs.length : Nat)) ∧ (PInv i.toNat P) ∧ (P = runP st0 (bs.take i.toNat)) ∧ (∀ b ∈ tk, SmallB b) ∧ (Src tk P.S) ∧ (os.length = tk.length) ∧ ((tk.length : Int) ≤ i) ∧ ∃ y9 : Nat → Value, vs = [.slice a (rs.length) cp, undef, (y9 2), .pointer (some ⟨bp, 0, none⟩), .slice a_o (os.length) cp_o, .int .i64 (i), (y9 6), (y9 7), (y9 8), (y9 9), (y9 10), (y9 11), undef, undef, undef, undef, undef, undef, .slice a (rs.length) cp, .bool false, .bool false, .bool true, .bool false, .bool false, undef, .pointer (some ⟨bp, 0, none⟩), (y9 26), (y9 27), (y9 28), (y9 29), (y9 30), (y9 31), (y9 32), (y9 33), (y9 34), (y9 35), (y9 36), (y9 37), (y9 38), (y9 39), (y9 40), (y9 41), (y9 42), (y9 43), (y9 44), (y9 45), (y9 46), (y9 47), (y9 48), (y9 49), (y9 50), (y9 51), (y9 52), (y9 53), (y9 54), (y9 55), (y9 56), (y9 57), (y9 58), (y9 59), (y9 60), (y9 61), (y9 62), (y9 63), (y9 64), (y9 65), (y9 66), (y9 67), (y9 68), (y9 69), (y9 70), (y9 71), (y9 72), (y9 73), (y9 74), (y9 75), (y9 76), (y9 77), (y9 78), (y9 79), (y9 80), (y9 81), (y9 82), (y9 83), (y9 84), (y9 85), (y9 86), (y9 87), (y9 88), (y9 89), (y9 90), (y9 91), (y9 92), (y9 93), (y9 94), (y9 95), (y9 96), (y9 97), (y9 98), (y9 99), (y9 100), (y9 101), (y9 102), (y9 103), (y9 104), (y9 105), (y9 106), (y9 107), (y9 108), (y9 109), (y9 110), undef, undef, undef, undef, undef, undef, undef, undef, undef, undef, undef, undef, undef, undef, undef, undef, undef, undef, undef, undef, undef, undef, undef, undef, undef, undef, undef, undef, undef, undef, undef, undef, undef, undef, undef, undef, undef, undef, undef, undef, undef, undef, undef, undef, undef, undef, undef, undef, undef, undef, undef, undef, undef, undef, undef, undef, undef, undef, undef, undef, undef, undef, undef, undef, undef, undef, undef, undef, undef, undef, undef, undef, undef, undef, undef, undef, undef, undef, undef, undef, undef, undef, undef, undef, undef, undef, undef, undef, undef, undef, undef, undef, undef, undef]) (((rs.length : Nat) - (0 : Int) + 1).toNat) ⟨0, st0, [], [], [], none, 0, rfl, hs, hn, hf, hb_bp, hb_fp, hb_gp, hSp, (FBats.nil _), OwnRow.nil, (by simp [blkOf]), (by simp [blkOf]), (by simp [blkOf]), ok_fp, ok_gp, (by omega), (by omega), (PInv.zero), (rfl), (fun b hb => by cases hb), (Src.nil), (rfl), (Int.le_refl 0), getV [undef, undef, .bool false, undef, undef, undef, undef, undef, undef, undef, undef, undef, undef, undef, undef, undef, undef, undef, undef, undef, undef, undef, undef, undef, undef, undef, undef, undef, undef, undef, undef, undef, undef, undef, undef, undef, undef, undef, undef, undef, undef, undef, undef, undef, undef, undef, undef, undef, undef, undef, undef, undef, undef, undef, undef, undef, undef, undef, undef, undef, undef, undef, undef, undef, undef, undef, undef, undef, undef, undef, undef, undef, undef, undef, undef, undef, undef, undef, undef, undef, undef, undef, undef, undef, undef, undef, undef, undef, undef, undef, undef, undef, undef, undef, undef, undef, undef, undef, undef, undef, undef, undef, undef, undef, undef, undef, undef, undef, undef, undef, undef], rfl⟩ ?_
  rintro d vs h10 n11 ⟨i, P, Gp, os, tk, a_o, cp_o, rfl, hs, hn, hf, hb_bp, hb_fp, hb_gp, hSp, D, R_o, d_o_bp, d_o_fp, d_o_gp, okfp, okgp, hi0, hi1, hPi, hP, htk, hsrc, hol, hok, y9, rfl⟩
  have hi60 : i.toNat ≤ 100 := by omega
  refine AWp.seq (AWp.seq (AWp.rowV (l := _) pok ?_))
  refine sq.c (v := .int .i64 (i)) rfl rfl rfl rfl ?_
  refine sq.c (v := .slice a (rs.length) cp) rfl rfl rfl rfl ?_
  refine sq.c (v := .int .i64 (((rs.length : Nat) : Int))) rfl rfl (by kernel_rfl) rfl ?_
  refine sq.c (v := .bool (decide (i < (((rs.length : Nat) : Int))))) rfl rfl rfl rfl ?_
  refine sq.e ?_
  by_cases c6_3 : i < (((rs.length : Nat) : Int))
  ·rw [decide_eq_true c6_3]
   refine AWp.condT rfl rfl ?_
   refine AWp.skip (AWp.seq (AWp.block (AWp.seq (AWp.rowV (l := _) pok ?_))))
   refine sq.c (v := .pointer (some ⟨bp, 0, none⟩)) rfl rfl rfl rfl ?_
   refine sq.c (v := .slice a (rs.length) cp) rfl rfl rfl rfl ?_
   refine sq.c (v := .int .i64 (i)) rfl rfl rfl rfl ?_
   have i18 : (0 : Int) ≤ (i : Int) := by omega
   obtain ⟨x19, hx_x19⟩ : ∃ x, (rs)[((i : Int)).toNat]? = some x := ⟨_, List.getElem?_eq_getElem (by omega)⟩
   obtain ⟨y_x19, hy_x19, hb_x19⟩ := hd.at hx_x19
   obtain ⟨t_x19, c_x19, e_x19, v_x19⟩ := x19
   obtain ⟨rfl, rfl, rfl, rs_x19, R_x19, D_x19⟩ := hb_x19
   obtain ⟨a_x19, c_x19, rfl⟩ := (show FRow encSer _ v_x19 rs_x19 from R_x19).slice
   obtain ⟨b12, o13, cs_b12, ow_b12, ci_b12, ie17, hb14, hc15, hr16⟩ := IsRow.at (P := Tryd.prog) (t := 22) (e := 31) (k := .i64) (by kernel_rfl) (by kernel_rfl) (hr.keep (.of0 hs)).is i18 hx_x19
   refine sq.c (v := .pointer (some ⟨b12, o13, none⟩)) rfl rfl ie17 rfl ?_
   refine sq.c (v := .agg #[.string (y_x19.ten), .string (y_x19.clu), .int .i64 (y_x19.epo), .slice a_x19 (rs_x19.length) c_x19]) rfl rfl (ldR (P := Tryd.prog) (t := 31) (k := 4) (xs := [.string (y_x19.ten), .string (y_x19.clu), .int .i64 (y_x19.epo), .slice a_x19 (rs_x19.length) c_x19]) (by kernel_rfl) (by kernel_rfl) hr16) rfl ?_
   have hsb := hlo.2 _ (List.mem_of_getElem? hy_x19)
   obtain ⟨R, hR⟩ : ∃ R, R = takeP P y_x19 := ⟨_, rfl⟩
   have hPi2 : PInv (i.toNat + 1) R.st := by rw [hR]; exact hPi.step hsb.2.2
   have hi61 : i.toNat + 1 ≤ 100 := by omega
   refine sq.k rfl (CallsF.fn rfl (by kernel_rfl) rfl rfl) (takeOn (⟨hb_bp, hb_fp, hb_gp, okfp, okgp, hSp, ne_fp_gp⟩ : At _ P _ _ _ _ Gp) y_x19 _ (R_x19.keep (.of0 hs)).is (D_x19.keep (.of0 hs)).is (hld.keep hs) hPi hi60 hsb hR) ?_
   rintro _ h20 n21 ⟨w_x, os_x, G_x, rfl, W_x, D_x, hf_x, hg_x, okF_x, okG_x, hS_x⟩ s22 hn2 hf
   obtain ⟨a_x, c_x, rfl⟩ := W_x.slice
   refine sq.w ?_
   have ours_s22 : Ours _ [fp, gp] := .cons hb_fp rfl (.cons hb_gp rfl (.nil _))
   have D := D.keep (.of s22 ours_s22)
   have R_o := R_o.but s22 (fun c hc hm => mem2 hm (d_o_fp c hc) (d_o_gp c hc))
   have hb_bp := s22.get2 (ne_bp_fp) (ne_bp_gp) hb_bp
   have hs := hs.fresh2 z_fp z_gp s22
   have hn := Nat.le_trans hn hn2
   have hSp := hS_x
   refine sq.c (v := .tuple #[.agg #[.string (R.kb.ten), .string (R.kb.clu), .int .i64 (R.kb.epo), .slice a_x (os_x.length) c_x, .int .i64 (R.bad), .bool (R.rose)], .int .i64 (R.e)]) rfl rfl rfl rfl ?_
   refine sq.c (v := .agg #[.string (R.kb.ten), .string (R.kb.clu), .int .i64 (R.kb.epo), .slice a_x (os_x.length) c_x, .int .i64 (R.bad), .bool (R.rose)]) rfl rfl rfl rfl ?_
   refine sq.c (v := .int .i64 (R.e)) rfl rfl rfl rfl ?_
   have e_bp_n21 : Apt bp n21 := hf.ne hb_bp
   have e_fp_n21 : Apt fp n21 := hf.ne hf_x
   have e_gp_n21 : Apt gp n21 := hf.ne hg_x
   have d_o_n21 : ∀ c ∈ blkOf (.slice a_o (os).length cp_o), c ≠ n21 := fun c hc e => R_o.ne' (hf _ (Nat.le_refl _)) c hc (List.mem_singleton.2 e)
   have z_n21 : h.get n21 = none := hf0 _ hn
   refine sq.op rfl rfl (Does.alloc (cs := [.string (⟨#[]⟩), .string (⟨#[]⟩), .int .i64 (0), .slice none (0) (0), .int .i64 (0), .bool false]) hf (z := .agg #[.string (⟨#[]⟩), .string (⟨#[]⟩), .int .i64 (0), .slice none (0) (0), .int .i64 (0), .bool false]) (by kernel_rfl) rfl) ?_
   rintro _ h24 n25 ⟨rfl, hb23⟩ s26 hn2 hf
   refine sq.w ?_
   have D := D.keep (.of0 s26)
   have R_o := R_o.keep s26
   have hSp := hSp.keep (.of0 s26)
   have W_x := W_x.keep (.of0 s26)
   have D_x := D_x.keep (.of0 s26)
   have hb_bp := s26.sub _ _ hb_bp
   have hf_x := s26.sub _ _ hf_x
   have hg_x := s26.sub _ _ hg_x
   have hs := hs.trans s26
   have hn := Nat.le_trans hn hn2
   refine sq.op rfl rfl (Does.store (k := 6) (xs := [.string (R.kb.ten), .string (R.kb.clu), .int .i64 (R.kb.epo), .slice a_x (os_x.length) c_x, .int .i64 (R.bad), .bool (R.rose)]) (cs' := [.string (R.kb.ten), .string (R.kb.clu), .int .i64 (R.kb.epo), .slice a_x (os_x.length) c_x, .int .i64 (R.bad), .bool (R.rose)]) hf (by kernel_rfl) rfl rfl rfl hb23 rfl rfl (Nat.le_of_ble_eq_true rfl) rfl) ?_
   rintro _ h28 n29 ⟨rfl, hb27⟩ s30 hn2 hf
   refine sq.w0 ?_
   have D := D.keep (.own s30 hb23 rfl)
   have R_o := R_o.but s30 (fun c hc hm => d_o_n21 c hc (List.mem_singleton.1 hm))
   have hSp := hSp.keep (.own s30 hb23 rfl)
   have W_x := W_x.keep (.own s30 hb23 rfl)
   have D_x := D_x.keep (.own s30 hb23 rfl)
   have hb_bp := s30.get1 (e_bp_n21) hb_bp
   have hf_x := s30.get1 (e_fp_n21) hf_x
   have hg_x := s30.get1 (e_gp_n21) hg_x
   have hs := hs.fresh z_n21 s30
   have hn := Nat.le_trans hn hn2
   refine sq.c (v := .int .i64 (R.e)) rfl rfl rfl rfl ?_
   refine sq.e (AWp.seq (AWp.seq (AWp.rowV (l := _) pok ?_)))
   refine sq.c (v := .int .i64 (R.e)) rfl rfl rfl rfl ?_
   refine sq.c (v := .bool (!decide (R.e = (0 : Int)))) rfl rfl rfl rfl ?_
   refine sq.e ?_
   by_cases c9_1 : R.e = (0 : Int)
   ·rw [decide_eq_true c9_1]
    refine AWp.condF rfl rfl ?_
    refine AWp.skip (AWp.seq (AWp.rowV (l := _) pok ?_))
    refine sq.c (v := .slice a_o (os.length) cp_o) rfl rfl rfl rfl ?_
    refine sq.c (v := .slice a (rs.length) cp) rfl rfl rfl rfl ?_
    refine sq.c (v := .int .i64 (i)) rfl rfl rfl rfl ?_
    have i37 : (0 : Int) ≤ (i : Int) := by omega
    obtain ⟨b31, o32, cs_b31, ow_b31, ci_b31, ie36, hb33, hc34, hr35⟩ := IsRow.at (P := Tryd.prog) (t := 22) (e := 31) (k := .i64) (by kernel_rfl) (by kernel_rfl) (hr.keep (.of0 hs)).is i37 hx_x19
    refine sq.c (v := .pointer (some ⟨b31, o32, none⟩)) rfl rfl ie36 rfl ?_
    refine sq.c (v := .agg #[.string (y_x19.ten), .string (y_x19.clu), .int .i64 (y_x19.epo), .slice a_x19 (rs_x19.length) c_x19]) rfl rfl (ldR (P := Tryd.prog) (t := 31) (k := 4) (xs := [.string (y_x19.ten), .string (y_x19.clu), .int .i64 (y_x19.epo), .slice a_x19 (rs_x19.length) c_x19]) (by kernel_rfl) (by kernel_rfl) hr35) rfl ?_
    have d_o_n29 : ∀ c ∈ blkOf (.slice a_o (os).length cp_o), c ≠ n29 := fun c hc e => R_o.ne' (hf _ (Nat.le_refl _)) c hc (List.mem_singleton.2 e)
    refine sq.op rfl rfl (Does.build (e := 31) (cs := [.string (y_x19.ten), .string (y_x19.clu), .int .i64 (y_x19.epo), .slice a_x19 (rs_x19.length) c_x19]) hf (fun _ _ => by kernel_rfl)) ?_
    rintro _ h39 n40 ⟨rfl, hb38⟩ s41 hn2 hf
    refine sq.w ?_
    have D := D.keep (.of0 s41)
    have R_o := R_o.keep s41
    have hSp := hSp.keep (.of0 s41)
    have W_x := W_x.keep (.of0 s41)
    have D_x := D_x.keep (.of0 s41)
    have hb_bp := s41.sub _ _ hb_bp
    have hf_x := s41.sub _ _ hf_x
    have hg_x := s41.sub _ _ hg_x
    have hb27 := s41.sub _ _ hb27
    have hs := hs.trans s41
    have hn := Nat.le_trans hn hn2
    have hz0 : h.get n40 = none := hf0 _ hn
    have hfo := hf
    have hFo := R_o.ours
    refine sq.op rfl rfl (Does.append (E := encBatO) (xs := os) (ys := [(y_x19.ten, y_x19.clu, y_x19.epo, (a_x19, rs_x19.length, c_x19))]) appBatO ⟨.slice 31, by kernel_rfl, fun _ q => by cases q⟩ hf hs R_o (IsRow.of (E := encBatO) (xs := [(y_x19.ten, y_x19.clu, y_x19.epo, (a_x19, rs_x19.length, c_x19))]) (cap := 1) hb38 (Nat.le_refl _)) rfl rfl (by simp only [List.length_cons, List.length_nil]; omega) (by simp only [List.length_cons, List.length_nil]; omega) hz0) ?_
    rintro v45 h42 n43 ⟨R_o, hs, hB46⟩ s44 hn2 hf
    refine sq.w ?_
    have dn_o_bp : ∀ c ∈ blkOf v45, c ≠ bp := fun c hc => (hB46 c hc).elim (fun q => d_o_bp c q) (fun q => by rw [q]; exact (hfo.ne hb_bp).symm)
    have dn_o_fp : ∀ c ∈ blkOf v45, c ≠ fp := fun c hc => (hB46 c hc).elim (fun q => d_o_fp c q) (fun q => by rw [q]; exact (hfo.ne hf_x).symm)
    have dn_o_gp : ∀ c ∈ blkOf v45, c ≠ gp := fun c hc => (hB46 c hc).elim (fun q => d_o_gp c q) (fun q => by rw [q]; exact (hfo.ne hg_x).symm)
    have dn_o_n21 : ∀ c ∈ blkOf v45, c ≠ n21 := fun c hc => (hB46 c hc).elim (fun q => d_o_n21 c q) (fun q => by rw [q]; exact (hfo.ne hb27).symm)
    have dn_o_n29 : ∀ c ∈ blkOf v45, c ≠ n29 := fun c hc => (hB46 c hc).elim (fun q => d_o_n29 c q) (fun q => by rw [q]; exact (hfo.ne hb38).symm)
    have ours_s44 := hFo
    have hb_bp := s44 _ _ (fun hm => d_o_bp _ hm rfl) hb_bp
    have hf_x := s44 _ _ (fun hm => d_o_fp _ hm rfl) hf_x
    have hg_x := s44 _ _ (fun hm => d_o_gp _ hm rfl) hg_x
    have D := D.keep (.of s44 ours_s44)
    have hSp := hSp.keep (.of s44 ours_s44)
    have W_x := W_x.keep (.of s44 ours_s44)
    have D_x := D_x.keep (.of s44 ours_s44)
    have hb27 := s44 _ _ (fun hm => d_o_n21 _ hm rfl) hb27
    have hb38 := s44 _ _ (fun hm => d_o_n29 _ hm rfl) hb38
    have d_o_bp := dn_o_bp
    have d_o_fp := dn_o_fp
    have d_o_gp := dn_o_gp
    have d_o_n21 := dn_o_n21
    have d_o_n29 := dn_o_n29
    obtain ⟨a47, cp48, rfl⟩ := R_o.slice
    have hn := Nat.le_trans hn hn2
    refine sq.c (v := .slice a47 (os ++ [(y_x19.ten, y_x19.clu, y_x19.epo, (a_x19, rs_x19.length, c_x19))]).length cp48) rfl rfl rfl rfl ?_
    refine sq.e (AWp.seq (AWp.rowV (l := _) pok ?_))
    refine sq.c (v := .int .i64 (0)) rfl rfl rfl rfl ?_
    refine sq.e (AWp.seq (AWp.seq (AWp.rowV (l := _) pok ?_)))
    refine sq.c (v := .int .i64 (0)) rfl rfl rfl rfl ?_
    refine sq.e (AWp.block ?_)
    have hrsl := D_x19.1
    have hs12 := hsb.2.2.1
    refine AWp.loopV (fun d vs h50 n51 => ∃ (k mi : Int), d = ((rs_x19.length : Nat) - k + 1).toNat ∧ SubBut h h50 ([]) ∧ n ≤ n51 ∧ Free h50 n51 ∧ h50.get bp = some (.cells [.map (some fp), .map (some gp)] true ⟨69, 0, true⟩) ∧ h50.get fp = some (.map (mapE plV intV R.F) R.kf) ∧ h50.get gp = some (.map (mapE plV ownV G_x) R.kg) ∧ FBats h50 (os.map batV) tk ∧ SMIs h50 G_x R.S ∧ FRow encSer h50 (.slice a_x (os_x.length) c_x) (os_x) ∧ FSers h50 os_x R.kb.ser ∧ h50.get n21 = some (.cells [.string (R.kb.ten), .string (R.kb.clu), .int .i64 (R.kb.epo), .slice a_x (os_x.length) c_x, .int .i64 (R.bad), .bool (R.rose)] true ⟨33, 0, true⟩) ∧ h50.get n29 = some (.cells [.string (y_x19.ten), .string (y_x19.clu), .int .i64 (y_x19.epo), .slice a_x19 (rs_x19.length) c_x19] true ⟨31, 0, true⟩) ∧ OwnRow encBatO 31 h h50 (.slice a47 (os ++ [(y_x19.ten, y_x19.clu, y_x19.epo, (a_x19, rs_x19.length, c_x19))]).length cp48) (os ++ [(y_x19.ten, y_x19.clu, y_x19.epo, (a_x19, rs_x19.length, c_x19))]) ∧ (0 ≤ k) ∧ (k ≤ (rs_x19.length : Nat)) ∧ (mi = misB R.S y_x19.ten (y_x19.ser.take k.toNat)) ∧ (0 ≤ mi) ∧ (mi ≤ 6000 * k) ∧ ∃ y49 : Nat → Value, vs = [.slice a (rs.length) cp, undef, (y9 2), .pointer (some ⟨bp, 0, none⟩), .slice a47 (os ++ [(y_x19.ten, y_x19.clu, y_x19.epo, (a_x19, rs_x19.length, c_x19))]).length cp48, .int .i64 (i), .pointer (some ⟨n21, 0, none⟩), .int .i64 (R.e), .int .i64 (mi), .int .i64 (k), (y49 10), (y49 11), undef, undef, undef, undef, undef, undef, .slice a (rs.length) cp, .bool false, .bool false, .bool true, .bool false, .bool false, undef, .pointer (some ⟨bp, 0, none⟩), .int .i64 (i), .slice a (rs.length) cp, .int .i64 (((rs.length : Nat) : Int)), .bool true, (y9 30), (y9 31), .tuple #[.agg #[.string (R.kb.ten), .string (R.kb.clu), .int .i64 (R.kb.epo), .slice a_x (os_x.length) c_x, .int .i64 (R.bad), .bool (R.rose)], .int .i64 (R.e)], .pointer (some ⟨bp, 0, none⟩), .slice a (rs.length) cp, .int .i64 (i), .pointer (some ⟨b12, o13, none⟩), .agg #[.string (y_x19.ten), .string (y_x19.clu), .int .i64 (y_x19.epo), .slice a_x19 (rs_x19.length) c_x19], .tuple #[.agg #[.string (R.kb.ten), .string (R.kb.clu), .int .i64 (R.kb.epo), .slice a_x (os_x.length) c_x, .int .i64 (R.bad), .bool (R.rose)], .int .i64 (R.e)], .agg #[.string (R.kb.ten), .string (R.kb.clu), .int .i64 (R.kb.epo), .slice a_x (os_x.length) c_x, .int .i64 (R.bad), .bool (R.rose)], .int .i64 (R.e), .int .i64 (R.e), .bool false, .slice a_o (os.length) cp_o, .slice a (rs.length) cp, .int .i64 (i), .pointer (some ⟨b31, o32, none⟩), .agg #[.string (y_x19.ten), .string (y_x19.clu), .int .i64 (y_x19.epo), .slice a_x19 (rs_x19.length) c_x19], .slice (some ⟨n29, 0, none⟩) (1) (1), .slice a47 (os ++ [(y_x19.ten, y_x19.clu, y_x19.epo, (a_x19, rs_x19.length, c_x19))]).length cp48, (y49 50), (y49 51), (y49 52), (y49 53), (y49 54), (y49 55), (y49 56), (y49 57), (y49 58), (y49 59), (y49 60), (y49 61), (y49 62), (y49 63), (y49 64), (y49 65), (y49 66), (y49 67), (y49 68), (y49 69), (y49 70), (y49 71), (y49 72), (y49 73), (y49 74), (y49 75), (y49 76), (y49 77), (y49 78), (y49 79), (y49 80), (y49 81), (y49 82), (y49 83), (y49 84), (y49 85), (y49 86), (y49 87), (y49 88), (y49 89), (y49 90), (y49 91), (y49 92), (y49 93), (y49 94), (y49 95), (y49 96), (y49 97), (y49 98), (y49 99), (y49 100), (y49 101), (y49 102), (y49 103), (y49 104), (y49 105), (y49 106), (y9 107), (y9 108), (y9 109), (y9 110), undef, undef, undef, undef, undef, undef, undef, undef, undef, undef, undef, undef, undef, undef, undef, undef, undef, undef, undef, undef, undef, undef, undef, undef, undef, undef, undef, undef, undef, undef, undef, undef, undef, undef, undef, undef, undef, undef, undef, undef, undef, undef, undef, undef, undef, undef, undef, undef, undef, undef, undef, undef, undef, undef, undef, undef, undef, undef, undef, undef, undef, undef, undef, undef, undef, undef, undef, undef, undef, undef, undef, undef, undef, undef, undef, undef, undef, undef, undef, undef, undef, undef, undef, undef, undef, undef, undef, undef, undef, undef, undef, undef, undef, undef]) (((rs_x19.length : Nat) - (0 : Int) + 1).toNat) ⟨0, 0, rfl, hs, hn, hf, hb_bp, hf_x, hg_x, D, hSp, W_x, D_x, hb27, hb38, R_o, (by omega), (by omega), (rfl), (Int.le_refl 0), (Int.le_refl 0), getV [undef, undef, undef, undef, undef, undef, undef, undef, undef, undef, (y9 10), (y9 11), undef, undef, undef, undef, undef, undef, undef, undef, undef, undef, undef, undef, undef, undef, undef, undef, undef, undef, undef, undef, undef, undef, undef, undef, undef, undef, undef, undef, undef, undef, undef, undef, undef, undef, undef, undef, undef, undef, (y9 50), (y9 51), (y9 52), (y9 53), (y9 54), (y9 55), (y9 56), (y9 57), (y9 58), (y9 59), (y9 60), (y9 61), (y9 62), (y9 63), (y9 64), (y9 65), (y9 66), (y9 67), (y9 68), (y9 69), (y9 70), (y9 71), (y9 72), (y9 73), (y9 74), (y9 75), (y9 76), (y9 77), (y9 78), (y9 79), (y9 80), (y9 81), (y9 82), (y9 83), (y9 84), (y9 85), (y9 86), (y9 87), (y9 88), (y9 89), (y9 90), (y9 91), (y9 92), (y9 93), (y9 94), (y9 95), (y9 96), (y9 97), (y9 98), (y9 99), (y9 100), (y9 101), (y9 102), (y9 103), (y9 104), (y9 105), (y9 106)], rfl⟩ ?_
    rintro d vs h50 n51 ⟨k, mi, rfl, hs, hn, hf, hb_bp, hf_x, hg_x, D, hSp, W_x, D_x, hb27, hb38, R_o, hk0, hk1, hmi, hm0, hm1, y49, rfl⟩
    refine AWp.seq (AWp.seq (AWp.rowV (l := _) pok ?_))
    refine sq.c (v := .int .i64 (k)) rfl rfl rfl rfl ?_
    refine sq.c (v := .slice a (rs.length) cp) rfl rfl rfl rfl ?_
    refine sq.c (v := .int .i64 (i)) rfl rfl rfl rfl ?_
    have i58 : (0 : Int) ≤ (i : Int) := by omega
    obtain ⟨b52, o53, cs_b52, ow_b52, ci_b52, ie57, hb54, hc55, hr56⟩ := IsRow.at (P := Tryd.prog) (t := 22) (e := 31) (k := .i64) (by kernel_rfl) (by kernel_rfl) (hr.keep (.of0 hs)).is i58 hx_x19
    refine sq.c (v := .pointer (some ⟨b52, o53, none⟩)) rfl rfl ie57 rfl ?_
    refine sq.c (v := .pointer (some ⟨b52, o53 + 3, none⟩)) rfl rfl (by kernel_rfl) rfl ?_
    refine sq.c (v := .slice a_x19 (rs_x19.length) c_x19) rfl rfl (ld1 (P := Tryd.prog) (t := 29) (p := o53 + 3) (v := .slice a_x19 (rs_x19.length) c_x19) (by kernel_rfl) (by kernel_rfl) hb54 (hc55 3 _ rfl)) rfl ?_
    refine sq.c (v := .int .i64 (((rs_x19.length : Nat) : Int))) rfl rfl (by kernel_rfl) rfl ?_
    refine sq.c (v := .bool (decide (k < (((rs_x19.length : Nat) : Int))))) rfl rfl rfl rfl ?_
    refine sq.e ?_
    by_cases c13_7 : k < (((rs_x19.length : Nat) : Int))
    ·rw [decide_eq_true c13_7]
     refine AWp.condT rfl rfl ?_
     refine AWp.skip (AWp.seq (AWp.block (AWp.seq ?_)))
     refine AWp.anyK pok [0, 1, 2, 3, 4, 5, 6, 7, 8, 9, 10, 11, 12, 13, 14, 15, 16] (by kernel_rfl) (by kernel_rfl) rfl (fun x fr fr' h n hd _ q => ⟨hd ▸ q.1, q.2⟩) ?_
     refine dk.c (v := .pointer (some ⟨bp, 0, none⟩)) rfl (by kernel_rfl) rfl rfl rfl rfl ?_
     refine dk.c (v := .slice a (rs.length) cp) rfl (by kernel_rfl) rfl rfl rfl rfl ?_
     refine dk.c (v := .int .i64 (i)) rfl (by kernel_rfl) rfl rfl rfl rfl ?_
     have i65 : (0 : Int) ≤ (i : Int) := by omega
     obtain ⟨b59, o60, cs_b59, ow_b59, ci_b59, ie64, hb61, hc62, hr63⟩ := IsRow.at (P := Tryd.prog) (t := 22) (e := 31) (k := .i64) (by kernel_rfl) (by kernel_rfl) (hr.keep (.of0 hs)).is i65 hx_x19
     refine dk.c (v := .pointer (some ⟨b59, o60, none⟩)) rfl (by kernel_rfl) rfl rfl ie64 rfl ?_
     refine dk.c (v := .pointer (some ⟨b59, o60, none⟩)) rfl (by kernel_rfl) rfl rfl (by kernel_rfl) rfl ?_
     refine dk.gB (v := .string (y_x19.ten)) b59 rfl (by kernel_rfl) rfl rfl (fun _ q_ => (ld1 (P := Tryd.prog) (t := 9) (p := o60 + 0) (v := .string (y_x19.ten)) (by kernel_rfl) (by kernel_rfl) (q_ _ hb61) (hc62 0 _ rfl))) rfl ?_
     refine dk.c (v := .slice a (rs.length) cp) rfl (by kernel_rfl) rfl rfl rfl rfl ?_
     refine dk.c (v := .int .i64 (i)) rfl (by kernel_rfl) rfl rfl rfl rfl ?_
     have i72 : (0 : Int) ≤ (i : Int) := by omega
     obtain ⟨b66, o67, cs_b66, ow_b66, ci_b66, ie71, hb68, hc69, hr70⟩ := IsRow.at (P := Tryd.prog) (t := 22) (e := 31) (k := .i64) (by kernel_rfl) (by kernel_rfl) (hr.keep (.of0 hs)).is i72 hx_x19
     refine dk.c (v := .pointer (some ⟨b66, o67, none⟩)) rfl (by kernel_rfl) rfl rfl ie71 rfl ?_
     refine dk.c (v := .pointer (some ⟨b66, o67 + 3, none⟩)) rfl (by kernel_rfl) rfl rfl (by kernel_rfl) rfl ?_
     refine dk.gB (v := .slice a_x19 (rs_x19.length) c_x19) b66 rfl (by kernel_rfl) rfl rfl (fun _ q_ => (ld1 (P := Tryd.prog) (t := 29) (p := o67 + 3) (v := .slice a_x19 (rs_x19.length) c_x19) (by kernel_rfl) (by kernel_rfl) (q_ _ hb68) (hc69 3 _ rfl))) rfl ?_
     refine dk.c (v := .int .i64 (k)) rfl (by kernel_rfl) rfl rfl rfl rfl ?_
     have i79 : (0 : Int) ≤ (k : Int) := by omega
     obtain ⟨x80, hx_x80⟩ : ∃ x, (rs_x19)[((k : Int)).toNat]? = some x := ⟨_, List.getElem?_eq_getElem (by omega)⟩
     obtain ⟨y_x80, hy_x80, L_x80, M_x80⟩ := D_x19.at hx_x80
     obtain ⟨v1_x80, v2_x80⟩ := x80
     obtain ⟨a1_x80, c1_x80, rfl⟩ := (show FRow encLab _ v1_x80 y_x80.1 from L_x80).slice
     obtain ⟨a2_x80, c2_x80, rfl⟩ := (show FRow encSmp _ v2_x80 y_x80.2 from M_x80).slice
     obtain ⟨b73, o74, cs_b73, ow_b73, ci_b73, ie78, hb75, hc76, hr77⟩ := IsRow.at (P := Tryd.prog) (t := 29) (e := 43) (k := .i64) (by kernel_rfl) (by kernel_rfl) (R_x19.keep (.of0 hs)).is i79 hx_x80
     refine dk.c (v := .pointer (some ⟨b73, o74, none⟩)) rfl (by kernel_rfl) rfl rfl ie78 rfl ?_
     refine dk.c (v := .pointer (some ⟨b73, o74, none⟩)) rfl (by kernel_rfl) rfl rfl (by kernel_rfl) rfl ?_
     refine dk.gB (v := .slice a1_x80 (y_x80.1.length) c1_x80) b73 rfl (by kernel_rfl) rfl rfl (fun _ q_ => (ld1 (P := Tryd.prog) (t := 40) (p := o74 + 0) (v := .slice a1_x80 (y_x80.1.length) c1_x80) (by kernel_rfl) (by kernel_rfl) (q_ _ hb75) (hc76 0 _ rfl))) rfl ?_
     refine dk.k rfl (by kernel_rfl) rfl (CallsF.fn rfl (by kernel_rfl) rfl rfl) (findOn (⟨hb_bp, hf_x, hg_x, okF_x, okG_x, hSp, ne_fp_gp⟩ : At _ R.st _ _ _ _ G_x) hPi2 hi61 y_x19.ten y_x80.1 (L_x80.keep (.of0 hs)).is ⟨(hsb.2.2.2 _ (List.mem_of_getElem? hy_x80)).1, (hsb.2.2.2 _ (List.mem_of_getElem? hy_x80)).2.2⟩) (keepC (by simp) (keepC (by simp) (keepC (by simp) keepN))) ?_
     rintro v_m80 h81 n82 R_m80 s83 hn2 hf
     obtain ⟨a_m80, c_m80, e_m80⟩ := R_m80.slice
     subst e_m80
     change FRow encSmp _ (.slice a_m80 (wasOf R.S (y_x19.ten, keyA y_x80.1)).length c_m80) (wasOf R.S (y_x19.ten, keyA y_x80.1)) at R_m80
     refine dk.w ?_
     have D := D.keep (.of0 s83)
     have hSp := hSp.keep (.of0 s83)
     have W_x := W_x.keep (.of0 s83)
     have D_x := D_x.keep (.of0 s83)
     have R_o := R_o.keep s83
     have hb_bp := s83.sub _ _ hb_bp
     have hf_x := s83.sub _ _ hf_x
     have hg_x := s83.sub _ _ hg_x
     have hb27 := s83.sub _ _ hb27
     have hb38 := s83.sub _ _ hb38
     have hs := hs.trans s83
     have hn := Nat.le_trans hn hn2
     refine dk.c (v := .slice a_m80 (wasOf R.S (y_x19.ten, keyA y_x80.1)).length c_m80) rfl (by kernel_rfl) rfl rfl rfl rfl ?_
     refine dk.e (AWp.seq (AWp.rowV (l := _) pok ?_))
     refine sq.c (v := .int .i64 (0)) rfl rfl rfl rfl ?_
     refine sq.e (AWp.block ?_)
     have hsl := (hsb.2.2.2 _ (List.mem_of_getElem? hy_x80)).2.1
     have hwl : (wasOf R.S (y_x19.ten, keyA y_x80.1)).length ≤ 7200000 * (i.toNat + 1) := (hPi2.inv.was _).2
     refine AWp.loopV (fun d vs h81' n85 => ∃ (j mi2 : Int), d = ((y_x80.2.length : Nat) - j + 1).toNat ∧ h81 = h81' ∧ n ≤ n85 ∧ Free h81 n85 ∧ (0 ≤ j) ∧ (j ≤ (y_x80.2.length : Nat)) ∧ (mi2 = mi + misS (wasOf R.S (y_x19.ten, keyA y_x80.1)) (y_x80.2.take j.toNat)) ∧ (mi ≤ mi2) ∧ (mi2 ≤ mi + j) ∧ ∃ y84 : Nat → Value, vs = [.slice a (rs.length) cp, undef, (y9 2), .pointer (some ⟨bp, 0, none⟩), .slice a47 (os ++ [(y_x19.ten, y_x19.clu, y_x19.epo, (a_x19, rs_x19.length, c_x19))]).length cp48, .int .i64 (i), .pointer (some ⟨n21, 0, none⟩), .int .i64 (R.e), .int .i64 (mi2), .int .i64 (k), .slice a_m80 (wasOf R.S (y_x19.ten, keyA y_x80.1)).length c_m80, .int .i64 (j), undef, undef, undef, undef, undef, undef, .slice a (rs.length) cp, .bool false, .bool false, .bool true, .bool false, .bool false, undef, .pointer (some ⟨bp, 0, none⟩), .int .i64 (i), .slice a (rs.length) cp, .int .i64 (((rs.length : Nat) : Int)), .bool true, (y9 30), (y9 31), .tuple #[.agg #[.string (R.kb.ten), .string (R.kb.clu), .int .i64 (R.kb.epo), .slice a_x (os_x.length) c_x, .int .i64 (R.bad), .bool (R.rose)], .int .i64 (R.e)], .pointer (some ⟨bp, 0, none⟩), .slice a (rs.length) cp, .int .i64 (i), .pointer (some ⟨b12, o13, none⟩), .agg #[.string (y_x19.ten), .string (y_x19.clu), .int .i64 (y_x19.epo), .slice a_x19 (rs_x19.length) c_x19], .tuple #[.agg #[.string (R.kb.ten), .string (R.kb.clu), .int .i64 (R.kb.epo), .slice a_x (os_x.length) c_x, .int .i64 (R.bad), .bool (R.rose)], .int .i64 (R.e)], .agg #[.string (R.kb.ten), .string (R.kb.clu), .int .i64 (R.kb.epo), .slice a_x (os_x.length) c_x, .int .i64 (R.bad), .bool (R.rose)], .int .i64 (R.e), .int .i64 (R.e), .bool false, .slice a_o (os.length) cp_o, .slice a (rs.length) cp, .int .i64 (i), .pointer (some ⟨b31, o32, none⟩), .agg #[.string (y_x19.ten), .string (y_x19.clu), .int .i64 (y_x19.epo), .slice a_x19 (rs_x19.length) c_x19], .slice (some ⟨n29, 0, none⟩) (1) (1), .slice a47 (os ++ [(y_x19.ten, y_x19.clu, y_x19.epo, (a_x19, rs_x19.length, c_x19))]).length cp48, .int .i64 (k), .slice a (rs.length) cp, .int .i64 (i), .pointer (some ⟨b52, o53, none⟩), .pointer (some ⟨b52, o53 + 3, none⟩), .slice a_x19 (rs_x19.length) c_x19, .int .i64 (((rs_x19.length : Nat) : Int)), .bool true, (y49 58), (y49 59), .pointer (some ⟨bp, 0, none⟩), .slice a (rs.length) cp, .int .i64 (i), .pointer (some ⟨b59, o60, none⟩), .pointer (some ⟨b59, o60, none⟩), .string (y_x19.ten), .slice a (rs.length) cp, .int .i64 (i), .pointer (some ⟨b66, o67, none⟩), .pointer (some ⟨b66, o67 + 3, none⟩), .slice a_x19 (rs_x19.length) c_x19, .int .i64 (k), .pointer (some ⟨b73, o74, none⟩), .pointer (some ⟨b73, o74, none⟩), .slice a1_x80 (y_x80.1.length) c1_x80, .slice a_m80 (wasOf R.S (y_x19.ten, keyA y_x80.1)).length c_m80, (y84 76), (y84 77), (y84 78), (y84 79), (y84 80), (y84 81), (y84 82), (y84 83), (y84 84), (y84 85), (y84 86), (y84 87), (y84 88), (y84 89), (y84 90), (y84 91), (y84 92), (y84 93), (y84 94), (y84 95), (y84 96), (y84 97), (y84 98), (y84 99), (y84 100), (y84 101), (y84 102), (y84 103), (y84 104), (y84 105), (y84 106), (y9 107), (y9 108), (y9 109), (y9 110), undef, undef, undef, undef, undef, undef, undef, undef, undef, undef, undef, undef, undef, undef, undef, undef, undef, undef, undef, undef, undef, undef, undef, undef, undef, undef, undef, undef, undef, undef, undef, undef, undef, undef, undef, undef, undef, undef, undef, undef, undef, undef, undef, undef, undef, undef, undef, undef, undef, undef, undef, undef, undef, undef, undef, undef, undef, undef, undef, undef, undef, undef, undef, undef, undef, undef, undef, undef, undef, undef, undef, undef, undef, undef, undef, undef, undef, undef, undef, undef, undef, undef, undef, undef, undef, undef, undef, undef, undef, undef, undef, undef, undef, undef]) (((y_x80.2.length : Nat) - (0 : Int) + 1).toNat) ⟨0, mi, rfl, rfl, hn, hf, (by omega), (by omega), (by show mi = mi + 0; omega), (Int.le_refl _), (by omega), getV [undef, undef, undef, undef, undef, undef, undef, undef, undef, undef, undef, undef, undef, undef, undef, undef, undef, undef, undef, undef, undef, undef, undef, undef, undef, undef, undef, undef, undef, undef, undef, undef, undef, undef, undef, undef, undef, undef, undef, undef, undef, undef, undef, undef, undef, undef, undef, undef, undef, undef, undef, undef, undef, undef, undef, undef, undef, undef, undef, undef, undef, undef, undef, undef, undef, undef, undef, undef, undef, undef, undef, undef, undef, undef, undef, undef, (y49 76), (y49 77), (y49 78), (y49 79), (y49 80), (y49 81), (y49 82), (y49 83), (y49 84), (y49 85), (y49 86), (y49 87), (y49 88), (y49 89), (y49 90), (y49 91), (y49 92), (y49 93), (y49 94), (y49 95), (y49 96), (y49 97), (y49 98), (y49 99), (y49 100), (y49 101), (y49 102), (y49 103), (y49 104), (y49 105), (y49 106)], rfl⟩ ?_
     rintro d vs h81' n85 ⟨j, mi2, rfl, rfl, hn, hf, hj0, hj1, hmi2, hj2, hj3, y84, rfl⟩
     refine AWp.seq (AWp.seq (AWp.rowV (l := _) pok ?_))
     refine sq.c (v := .int .i64 (j)) rfl rfl rfl rfl ?_
     refine sq.c (v := .slice a (rs.length) cp) rfl rfl rfl rfl ?_
     refine sq.c (v := .int .i64 (i)) rfl rfl rfl rfl ?_
     have i92 : (0 : Int) ≤ (i : Int) := by omega
     obtain ⟨b86, o87, cs_b86, ow_b86, ci_b86, ie91, hb88, hc89, hr90⟩ := IsRow.at (P := Tryd.prog) (t := 22) (e := 31) (k := .i64) (by kernel_rfl) (by kernel_rfl) (hr.keep (.of0 hs)).is i92 hx_x19
     refine sq.c (v := .pointer (some ⟨b86, o87, none⟩)) rfl rfl ie91 rfl ?_
     refine sq.c (v := .pointer (some ⟨b86, o87 + 3, none⟩)) rfl rfl (by kernel_rfl) rfl ?_
     refine sq.c (v := .slice a_x19 (rs_x19.length) c_x19) rfl rfl (ld1 (P := Tryd.prog) (t := 29) (p := o87 + 3) (v := .slice a_x19 (rs_x19.length) c_x19) (by kernel_rfl) (by kernel_rfl) hb88 (hc89 3 _ rfl)) rfl ?_
     refine sq.c (v := .int .i64 (k)) rfl rfl rfl rfl ?_
     have i99 : (0 : Int) ≤ (k : Int) := by omega
     obtain ⟨b93, o94, cs_b93, ow_b93, ci_b93, ie98, hb95, hc96, hr97⟩ := IsRow.at (P := Tryd.prog) (t := 29) (e := 43) (k := .i64) (by kernel_rfl) (by kernel_rfl) (R_x19.keep (.of0 hs)).is i99 hx_x80
     refine sq.c (v := .pointer (some ⟨b93, o94, none⟩)) rfl rfl ie98 rfl ?_
     refine sq.c (v := .pointer (some ⟨b93, o94 + 1, none⟩)) rfl rfl (by kernel_rfl) rfl ?_
     refine sq.c (v := .slice a2_x80 (y_x80.2.length) c2_x80) rfl rfl (ld1 (P := Tryd.prog) (t := 41) (p := o94 + 1) (v := .slice a2_x80 (y_x80.2.length) c2_x80) (by kernel_rfl) (by kernel_rfl) hb95 (hc96 1 _ rfl)) rfl ?_
     refine sq.c (v := .int .i64 (((y_x80.2.length : Nat) : Int))) rfl rfl (by kernel_rfl) rfl ?_
     refine sq.c (v := .bool (decide (j < (((y_x80.2.length : Nat) : Int))))) rfl rfl rfl rfl ?_
     refine sq.e ?_
     by_cases c17_11 : j < (((y_x80.2.length : Nat) : Int))
     ·rw [decide_eq_true c17_11]
      refine AWp.condT rfl rfl ?_
      refine AWp.skip (AWp.seq (AWp.block (AWp.seq (AWp.rowV (l := _) pok ?_))))
      refine sq.c (v := .slice a_m80 (wasOf R.S (y_x19.ten, keyA y_x80.1)).length c_m80) rfl rfl rfl rfl ?_
      refine sq.c (v := .slice a (rs.length) cp) rfl rfl rfl rfl ?_
      refine sq.c (v := .int .i64 (i)) rfl rfl rfl rfl ?_
      have i106 : (0 : Int) ≤ (i : Int) := by omega
      obtain ⟨b100, o101, cs_b100, ow_b100, ci_b100, ie105, hb102, hc103, hr104⟩ := IsRow.at (P := Tryd.prog) (t := 22) (e := 31) (k := .i64) (by kernel_rfl) (by kernel_rfl) (hr.keep (.of0 hs)).is i106 hx_x19
      refine sq.c (v := .pointer (some ⟨b100, o101, none⟩)) rfl rfl ie105 rfl ?_
      refine sq.c (v := .pointer (some ⟨b100, o101 + 3, none⟩)) rfl rfl (by kernel_rfl) rfl ?_
      refine sq.c (v := .slice a_x19 (rs_x19.length) c_x19) rfl rfl (ld1 (P := Tryd.prog) (t := 29) (p := o101 + 3) (v := .slice a_x19 (rs_x19.length) c_x19) (by kernel_rfl) (by kernel_rfl) hb102 (hc103 3 _ rfl)) rfl ?_
      refine sq.c (v := .int .i64 (k)) rfl rfl rfl rfl ?_
      have i113 : (0 : Int) ≤ (k : Int) := by omega
      obtain ⟨b107, o108, cs_b107, ow_b107, ci_b107, ie112, hb109, hc110, hr111⟩ := IsRow.at (P := Tryd.prog) (t := 29) (e := 43) (k := .i64) (by kernel_rfl) (by kernel_rfl) (R_x19.keep (.of0 hs)).is i113 hx_x80
      refine sq.c (v := .pointer (some ⟨b107, o108, none⟩)) rfl rfl ie112 rfl ?_
      refine sq.c (v := .pointer (some ⟨b107, o108 + 1, none⟩)) rfl rfl (by kernel_rfl) rfl ?_
      refine sq.c (v := .slice a2_x80 (y_x80.2.length) c2_x80) rfl rfl (ld1 (P := Tryd.prog) (t := 41) (p := o108 + 1) (v := .slice a2_x80 (y_x80.2.length) c2_x80) (by kernel_rfl) (by kernel_rfl) hb109 (hc110 1 _ rfl)) rfl ?_
      refine sq.c (v := .int .i64 (j)) rfl rfl rfl rfl ?_
      have i120 : (0 : Int) ≤ (j : Int) := by omega
      obtain ⟨x121, hx_x121⟩ : ∃ x, (y_x80.2)[((j : Int)).toNat]? = some x := ⟨_, List.getElem?_eq_getElem (by omega)⟩
      obtain ⟨b114, o115, cs_b114, ow_b114, ci_b114, ie119, hb116, hc117, hr118⟩ := IsRow.at (P := Tryd.prog) (t := 41) (e := 53) (k := .i64) (by kernel_rfl) (by kernel_rfl) (M_x80.keep (.of0 hs)).is i120 hx_x121
      refine sq.c (v := .pointer (some ⟨b114, o115, none⟩)) rfl rfl ie119 rfl ?_
      refine sq.c (v := .agg #[.int .i64 (x121.1), .int .u64 (x121.2)]) rfl rfl (ldR (P := Tryd.prog) (t := 53) (k := 2) (xs := [.int .i64 (x121.1), .int .u64 (x121.2)]) (by kernel_rfl) (by kernel_rfl) hr118) rfl ?_
      refine sq.t (v := .bool (decide (x121 ∈ (wasOf R.S (y_x19.ten, keyA y_x80.1))))) rfl (CallsF.fn rfl (by kernel_rfl) rfl rfl) (fun hf => has_spec _ x121 R_m80.is (by omega)) hf rfl ?_
      intro n122 hn2 hf
      have hn := Nat.le_trans hn hn2
      refine sq.c (v := .bool (!decide (x121 ∈ (wasOf R.S (y_x19.ten, keyA y_x80.1))))) rfl rfl rfl rfl ?_
      refine sq.e ?_
      by_cases c_has : x121 ∈ (wasOf R.S (y_x19.ten, keyA y_x80.1))
      ·rw [decide_eq_true c_has]
       refine AWp.condF rfl rfl ?_
       refine AWp.skip (AWp.rowV (l := _) pok ?_)
       refine sq.c (v := .int .i64 (j)) rfl rfl rfl rfl ?_
       refine sq.c (v := .int .i64 (j + 1)) rfl rfl (okI (wrap_i64 (by omega) (by omega))) rfl ?_
       refine sq.c (v := .int .i64 (j + 1)) rfl rfl rfl rfl ?_
       refine sq.e ?_
       refine ⟨_, _, rfl, (by omega), j + 1, mi2, rfl, rfl, hn, hf, (by omega), (by omega), (by rw [take_snoc hj0 hx_x121, misS_snoc, if_pos c_has]; omega), (by omega), (by omega), getV [undef, undef, undef, undef, undef, undef, undef, undef, undef, undef, undef, undef, undef, undef, undef, undef, undef, undef, undef, undef, undef, undef, undef, undef, undef, undef, undef, undef, undef, undef, undef, undef, undef, undef, undef, undef, undef, undef, undef, undef, undef, undef, undef, undef, undef, undef, undef, undef, undef, undef, undef, undef, undef, undef, undef, undef, undef, undef, undef, undef, undef, undef, undef, undef, undef, undef, undef, undef, undef, undef, undef, undef, undef, undef, undef, undef, .int .i64 (j), .slice a (rs.length) cp, .int .i64 (i), .pointer (some ⟨b86, o87, none⟩), .pointer (some ⟨b86, o87 + 3, none⟩), .slice a_x19 (rs_x19.length) c_x19, .int .i64 (k), .pointer (some ⟨b93, o94, none⟩), .pointer (some ⟨b93, o94 + 1, none⟩), .slice a2_x80 (y_x80.2.length) c2_x80, .int .i64 (((y_x80.2.length : Nat) : Int)), .bool true, .int .i64 (j), .int .i64 (j + 1), .slice a_m80 (wasOf R.S (y_x19.ten, keyA y_x80.1)).length c_m80, .slice a (rs.length) cp, .int .i64 (i), .pointer (some ⟨b100, o101, none⟩), .pointer (some ⟨b100, o101 + 3, none⟩), .slice a_x19 (rs_x19.length) c_x19, .int .i64 (k), .pointer (some ⟨b107, o108, none⟩), .pointer (some ⟨b107, o108 + 1, none⟩), .slice a2_x80 (y_x80.2.length) c2_x80, .int .i64 (j), .pointer (some ⟨b114, o115, none⟩), .agg #[.int .i64 (x121.1), .int .u64 (x121.2)], .bool true, .bool false, (y84 105), (y84 106)], rfl⟩
      ·rw [decide_eq_false c_has]
       refine AWp.condT rfl rfl ?_
       refine AWp.rowV (l := _) pok ?_
       refine sq.c (v := .int .i64 (mi2)) rfl rfl rfl rfl ?_
       refine sq.c (v := .int .i64 (mi2 + 1)) rfl rfl (okI (wrap_i64 (by omega) (by omega))) rfl ?_
       refine sq.c (v := .int .i64 (mi2 + 1)) rfl rfl rfl rfl ?_
       refine sq.e (AWp.rowV (l := _) pok ?_)
       refine sq.c (v := .int .i64 (j)) rfl rfl rfl rfl ?_
       refine sq.c (v := .int .i64 (j + 1)) rfl rfl (okI (wrap_i64 (by omega) (by omega))) rfl ?_
       refine sq.c (v := .int .i64 (j + 1)) rfl rfl rfl rfl ?_
       refine sq.e ?_
       refine ⟨_, _, rfl, (by omega), j + 1, mi2 + 1, rfl, rfl, hn, hf, (by omega), (by omega), (by rw [take_snoc hj0 hx_x121, misS_snoc, if_neg c_has]; omega), (by omega), (by omega), getV [undef, undef, undef, undef, undef, undef, undef, undef, undef, undef, undef, undef, undef, undef, undef, undef, undef, undef, undef, undef, undef, undef, undef, undef, undef, undef, undef, undef, undef, undef, undef, undef, undef, undef, undef, undef, undef, undef, undef, undef, undef, undef, undef, undef, undef, undef, undef, undef, undef, undef, undef, undef, undef, undef, undef, undef, undef, undef, undef, undef, undef, undef, undef, undef, undef, undef, undef, undef, undef, undef, undef, undef, undef, undef, undef, undef, .int .i64 (j), .slice a (rs.length) cp, .int .i64 (i), .pointer (some ⟨b86, o87, none⟩), .pointer (some ⟨b86, o87 + 3, none⟩), .slice a_x19 (rs_x19.length) c_x19, .int .i64 (k), .pointer (some ⟨b93, o94, none⟩), .pointer (some ⟨b93, o94 + 1, none⟩), .slice a2_x80 (y_x80.2.length) c2_x80, .int .i64 (((y_x80.2.length : Nat) : Int)), .bool true, .int .i64 (j), .int .i64 (j + 1), .slice a_m80 (wasOf R.S (y_x19.ten, keyA y_x80.1)).length c_m80, .slice a (rs.length) cp, .int .i64 (i), .pointer (some ⟨b100, o101, none⟩), .pointer (some ⟨b100, o101 + 3, none⟩), .slice a_x19 (rs_x19.length) c_x19, .int .i64 (k), .pointer (some ⟨b107, o108, none⟩), .pointer (some ⟨b107, o108 + 1, none⟩), .slice a2_x80 (y_x80.2.length) c2_x80, .int .i64 (j), .pointer (some ⟨b114, o115, none⟩), .agg #[.int .i64 (x121.1), .int .u64 (x121.2)], .bool false, .bool true, .int .i64 (mi2), .int .i64 (mi2 + 1)], rfl⟩
     ·rw [decide_eq_false c17_11]
      refine AWp.condF rfl rfl ?_
      refine AWp.exit ?_
      refine AWp.rowV (l := _) pok ?_
      refine sq.c (v := .int .i64 (k)) rfl rfl rfl rfl ?_
      refine sq.c (v := .int .i64 (k + 1)) rfl rfl (okI (wrap_i64 (by omega) (by omega))) rfl ?_
      refine sq.c (v := .int .i64 (k + 1)) rfl rfl rfl rfl ?_
      refine sq.e ?_
      refine ⟨_, _, rfl, (by omega), k + 1, mi2, rfl, hs, hn, hf, hb_bp, hf_x, hg_x, D, hSp, W_x, D_x, hb27, hb38, R_o, (by omega), (by omega), (by rw [take_snoc hk0 hy_x80, misB_snoc, ← hmi, hmi2, show j.toNat = y_x80.2.length by omega, List.take_length]), (by omega), (by omega), getV [undef, undef, undef, undef, undef, undef, undef, undef, undef, undef, .slice a_m80 (wasOf R.S (y_x19.ten, keyA y_x80.1)).length c_m80, .int .i64 (j), undef, undef, undef, undef, undef, undef, undef, undef, undef, undef, undef, undef, undef, undef, undef, undef, undef, undef, undef, undef, undef, undef, undef, undef, undef, undef, undef, undef, undef, undef, undef, undef, undef, undef, undef, undef, undef, undef, .int .i64 (k), .slice a (rs.length) cp, .int .i64 (i), .pointer (some ⟨b52, o53, none⟩), .pointer (some ⟨b52, o53 + 3, none⟩), .slice a_x19 (rs_x19.length) c_x19, .int .i64 (((rs_x19.length : Nat) : Int)), .bool true, .int .i64 (k), .int .i64 (k + 1), .pointer (some ⟨bp, 0, none⟩), .slice a (rs.length) cp, .int .i64 (i), .pointer (some ⟨b59, o60, none⟩), .pointer (some ⟨b59, o60, none⟩), .string (y_x19.ten), .slice a (rs.length) cp, .int .i64 (i), .pointer (some ⟨b66, o67, none⟩), .pointer (some ⟨b66, o67 + 3, none⟩), .slice a_x19 (rs_x19.length) c_x19, .int .i64 (k), .pointer (some ⟨b73, o74, none⟩), .pointer (some ⟨b73, o74, none⟩), .slice a1_x80 (y_x80.1.length) c1_x80, .slice a_m80 (wasOf R.S (y_x19.ten, keyA y_x80.1)).length c_m80, .int .i64 (j), .slice a (rs.length) cp, .int .i64 (i), .pointer (some ⟨b86, o87, none⟩), .pointer (some ⟨b86, o87 + 3, none⟩), .slice a_x19 (rs_x19.length) c_x19, .int .i64 (k), .pointer (some ⟨b93, o94, none⟩), .pointer (some ⟨b93, o94 + 1, none⟩), .slice a2_x80 (y_x80.2.length) c2_x80, .int .i64 (((y_x80.2.length : Nat) : Int)), .bool false, (y84 88), (y84 89), (y84 90), (y84 91), (y84 92), (y84 93), (y84 94), (y84 95), (y84 96), (y84 97), (y84 98), (y84 99), (y84 100), (y84 101), (y84 102), (y84 103), (y84 104), (y84 105), (y84 106)], rfl⟩
    ·rw [decide_eq_false c13_7]
     refine AWp.condF rfl rfl ?_
     refine AWp.exit ?_
     refine AWp.seq (AWp.rowV (l := _) pok ?_)
     refine sq.c (v := .int .i64 (mi)) rfl rfl rfl rfl ?_
     refine sq.c (v := .pointer (some ⟨n21, 4, none⟩)) rfl rfl (by kernel_rfl) rfl ?_
     refine sq.c (v := .int .i64 (R.bad)) rfl rfl (ld1 (P := Tryd.prog) (t := 3) (p := 4) (v := .int .i64 (R.bad)) (by kernel_rfl) (by kernel_rfl) hb27 rfl) rfl ?_
     refine sq.c (v := .bool (!decide (mi = R.bad))) rfl rfl rfl rfl ?_
     refine sq.e ?_
     by_cases c21_3 : mi = R.bad
     ·rw [decide_eq_true c21_3]
      refine AWp.condF rfl rfl ?_
      refine AWp.skip (AWp.rowV (l := _) pok ?_)
      refine sq.c (v := .int .i64 (i)) rfl rfl rfl rfl ?_
      refine sq.c (v := .int .i64 (i + 1)) rfl rfl (okI (wrap_i64 (by omega) (by omega))) rfl ?_
      refine sq.c (v := .int .i64 (i + 1)) rfl rfl rfl rfl ?_
      refine sq.e ?_
      have D_ : FBats _ ((os ++ [(y_x19.ten, y_x19.clu, y_x19.epo, (a_x19, rs_x19.length, c_x19))]).map batV) (tk ++ [y_x19]) := D.snocO ⟨rfl, rfl, rfl, rs_x19, (R_x19.keep (.of0 hs)), D_x19.keep (.of0 hs)⟩
      refine ⟨_, _, rfl, (by omega), i + 1, R.st, G_x, os ++ [(y_x19.ten, y_x19.clu, y_x19.epo, (a_x19, rs_x19.length, c_x19))], tk ++ [y_x19], a47, cp48, rfl, hs, hn, hf, hb_bp, hf_x, hg_x, hSp, (D_), R_o, d_o_bp, d_o_fp, d_o_gp, okF_x, okG_x, (by omega), (by omega), (by rw [show (i + 1).toNat = i.toNat + 1 by omega]; exact hPi2), (by rw [take_snoc hi0 hy_x19, runP_snoc, ← hP, ← hR]), (fun b hb => (List.mem_append.1 hb).elim (htk b) (fun hb => by rw [List.mem_singleton] at hb; rw [hb]; exact hsb)), (by rw [hR]; exact hsrc.take y_x19), (by rw [List.length_append, List.length_append, hol]; rfl), (by rw [List.length_append]; show ((tk.length + 1 : Nat) : Int) ≤ i + 1; omega), getV [undef, undef, (y9 2), undef, undef, undef, .pointer (some ⟨n21, 0, none⟩), .int .i64 (R.e), .int .i64 (mi), .int .i64 (k), (y49 10), (y49 11), undef, undef, undef, undef, undef, undef, undef, undef, undef, undef, undef, undef, undef, undef, .int .i64 (i), .slice a (rs.length) cp, .int .i64 (((rs.length : Nat) : Int)), .bool true, .int .i64 (i), .int .i64 (i + 1), .tuple #[.agg #[.string (R.kb.ten), .string (R.kb.clu), .int .i64 (R.kb.epo), .slice a_x (os_x.length) c_x, .int .i64 (R.bad), .bool (R.rose)], .int .i64 (R.e)], .pointer (some ⟨bp, 0, none⟩), .slice a (rs.length) cp, .int .i64 (i), .pointer (some ⟨b12, o13, none⟩), .agg #[.string (y_x19.ten), .string (y_x19.clu), .int .i64 (y_x19.epo), .slice a_x19 (rs_x19.length) c_x19], .tuple #[.agg #[.string (R.kb.ten), .string (R.kb.clu), .int .i64 (R.kb.epo), .slice a_x (os_x.length) c_x, .int .i64 (R.bad), .bool (R.rose)], .int .i64 (R.e)], .agg #[.string (R.kb.ten), .string (R.kb.clu), .int .i64 (R.kb.epo), .slice a_x (os_x.length) c_x, .int .i64 (R.bad), .bool (R.rose)], .int .i64 (R.e), .int .i64 (R.e), .bool false, .slice a_o (os.length) cp_o, .slice a (rs.length) cp, .int .i64 (i), .pointer (some ⟨b31, o32, none⟩), .agg #[.string (y_x19.ten), .string (y_x19.clu), .int .i64 (y_x19.epo), .slice a_x19 (rs_x19.length) c_x19], .slice (some ⟨n29, 0, none⟩) (1) (1), .slice a47 (os ++ [(y_x19.ten, y_x19.clu, y_x19.epo, (a_x19, rs_x19.length, c_x19))]).length cp48, .int .i64 (k), .slice a (rs.length) cp, .int .i64 (i), .pointer (some ⟨b52, o53, none⟩), .pointer (some ⟨b52, o53 + 3, none⟩), .slice a_x19 (rs_x19.length) c_x19, .int .i64 (((rs_x19.length : Nat) : Int)), .bool false, (y49 58), (y49 59), (y49 60), (y49 61), (y49 62), (y49 63), (y49 64), (y49 65), (y49 66), (y49 67), (y49 68), (y49 69), (y49 70), (y49 71), (y49 72), (y49 73), (y49 74), (y49 75), (y49 76), (y49 77), (y49 78), (y49 79), (y49 80), (y49 81), (y49 82), (y49 83), (y49 84), (y49 85), (y49 86), (y49 87), (y49 88), (y49 89), (y49 90), (y49 91), (y49 92), (y49 93), (y49 94), (y49 95), (y49 96), (y49 97), (y49 98), (y49 99), (y49 100), (y49 101), (y49 102), (y49 103), (y49 104), (y49 105), (y49 106), .int .i64 (mi), .pointer (some ⟨n21, 4, none⟩), .int .i64 (R.bad), .bool false], rfl⟩
     ·exfalso
      exact c21_3 (by rw [hmi, show k.toNat = y_x19.ser.length by omega, List.take_length, hR]; exact take_mis hPi hsb.2.2 (by rw [← hR]; exact c9_1))
   ·rw [decide_eq_false c9_1]
    refine AWp.condT rfl rfl ?_
    refine AWp.exit ?_
    refine AWp.rowV (l := _) pok ?_
    refine sq.c (v := .int .i64 (i)) rfl rfl rfl rfl ?_
    refine sq.c (v := .int .i64 (i + 1)) rfl rfl (okI (wrap_i64 (by omega) (by omega))) rfl ?_
    refine sq.c (v := .int .i64 (i + 1)) rfl rfl rfl rfl ?_
    refine sq.e ?_
    have e0 : R.st = P := by rw [hR]; exact (takeP_no (by rw [← hR]; exact c9_1)).2.2.2
    refine ⟨_, _, rfl, (by omega), i + 1, R.st, G_x, os, tk, a_o, cp_o, rfl, hs, hn, hf, hb_bp, hf_x, hg_x, hSp, D, R_o, d_o_bp, d_o_fp, d_o_gp, okF_x, okG_x, (by omega), (by omega), (by rw [show (i + 1).toNat = i.toNat + 1 by omega]; exact hPi2), (by rw [take_snoc hi0 hy_x19, runP_snoc, ← hP, ← hR]), (by omega), (by rw [e0]; exact hsrc), (by omega), (by omega), getV [undef, undef, (y9 2), undef, undef, undef, .pointer (some ⟨n21, 0, none⟩), .int .i64 (R.e), (y9 8), (y9 9), (y9 10), (y9 11), undef, undef, undef, undef, undef, undef, undef, undef, undef, undef, undef, undef, undef, undef, .int .i64 (i), .slice a (rs.length) cp, .int .i64 (((rs.length : Nat) : Int)), .bool true, .int .i64 (i), .int .i64 (i + 1), .tuple #[.agg #[.string (R.kb.ten), .string (R.kb.clu), .int .i64 (R.kb.epo), .slice a_x (os_x.length) c_x, .int .i64 (R.bad), .bool (R.rose)], .int .i64 (R.e)], .pointer (some ⟨bp, 0, none⟩), .slice a (rs.length) cp, .int .i64 (i), .pointer (some ⟨b12, o13, none⟩), .agg #[.string (y_x19.ten), .string (y_x19.clu), .int .i64 (y_x19.epo), .slice a_x19 (rs_x19.length) c_x19], .tuple #[.agg #[.string (R.kb.ten), .string (R.kb.clu), .int .i64 (R.kb.epo), .slice a_x (os_x.length) c_x, .int .i64 (R.bad), .bool (R.rose)], .int .i64 (R.e)], .agg #[.string (R.kb.ten), .string (R.kb.clu), .int .i64 (R.kb.epo), .slice a_x (os_x.length) c_x, .int .i64 (R.bad), .bool (R.rose)], .int .i64 (R.e), .int .i64 (R.e), .bool true, (y9 43), (y9 44), (y9 45), (y9 46), (y9 47), (y9 48), (y9 49), (y9 50), (y9 51), (y9 52), (y9 53), (y9 54), (y9 55), (y9 56), (y9 57), (y9 58), (y9 59), (y9 60), (y9 61), (y9 62), (y9 63), (y9 64), (y9 65), (y9 66), (y9 67), (y9 68), (y9 69), (y9 70), (y9 71), (y9 72), (y9 73), (y9 74), (y9 75), (y9 76), (y9 77), (y9 78), (y9 79), (y9 80), (y9 81), (y9 82), (y9 83), (y9 84), (y9 85), (y9 86), (y9 87), (y9 88), (y9 89), (y9 90), (y9 91), (y9 92), (y9 93), (y9 94), (y9 95), (y9 96), (y9 97), (y9 98), (y9 99), (y9 100), (y9 101), (y9 102), (y9 103), (y9 104), (y9 105), (y9 106), (y9 107), (y9 108), (y9 109), (y9 110)], rfl⟩
  ·rw [decide_eq_false c6_3]
   refine AWp.condF rfl rfl ?_
   refine AWp.exit ?_
   refine AWp.seq (AWp.rowV (l := _) pok ?_)
   refine sq.c (v := .pointer (some ⟨bp, 0, none⟩)) rfl rfl rfl rfl ?_
   refine sq.k rfl (CallsF.fn rfl (by kernel_rfl) rfl rfl) (allOn (⟨hb_bp, hb_fp, hb_gp, okfp, okgp, hSp, ne_fp_gp⟩ : At _ P _ _ _ _ Gp) hPi hi60) ?_
   rintro _ h123 n124 ⟨ro_u, R_u, D_u⟩ s125 hn2 hf
   obtain ⟨a_u, c_u, rfl⟩ := R_u.slice
   refine sq.w ?_
   have D := D.keep (.of0 s125)
   have R_o := R_o.keep s125
   have hs := hs.trans s125
   have hn := Nat.le_trans hn hn2
   change FOwns _ ro_u (allV P.S) at D_u
   refine sq.c (v := .slice a_u (ro_u.length) c_u) rfl rfl rfl rfl ?_
   refine sq.e (AWp.seq (AWp.seq (AWp.rowV (l := _) pok ?_)))
   refine sq.c (v := .int .i64 (0)) rfl rfl rfl rfl ?_
   refine sq.e (AWp.block ?_)
   have hrl3 := D_u.1
   rw [allV_len] at hrl3
   have hls3 := hPi.lenS
   refine AWp.loopV (fun d vs h123' n127 => ∃ (u : Int), d = ((ro_u.length : Nat) - u + 1).toNat ∧ h123 = h123' ∧ n ≤ n127 ∧ Free h123 n127 ∧ (0 ≤ u) ∧ (u ≤ (ro_u.length : Nat)) ∧ ∃ y126 : Nat → Value, vs = [.slice a (rs.length) cp, undef, (y126 2), .pointer (some ⟨bp, 0, none⟩), .slice a_o (os.length) cp_o, .int .i64 (i), (y9 6), (y9 7), (y9 8), (y9 9), (y9 10), (y9 11), .slice a_u (ro_u.length) c_u, .int .i64 (u), (y126 14), (y126 15), (y126 16), (y126 17), .slice a (rs.length) cp, .bool false, .bool false, .bool true, .bool false, .bool false, undef, .pointer (some ⟨bp, 0, none⟩), .int .i64 (i), .slice a (rs.length) cp, .int .i64 (((rs.length : Nat) : Int)), .bool false, (y9 30), (y9 31), (y9 32), (y9 33), (y9 34), (y9 35), (y9 36), (y9 37), (y9 38), (y9 39), (y9 40), (y9 41), (y9 42), (y9 43), (y9 44), (y9 45), (y9 46), (y9 47), (y9 48), (y9 49), (y9 50), (y9 51), (y9 52), (y9 53), (y9 54), (y9 55), (y9 56), (y9 57), (y9 58), (y9 59), (y9 60), (y9 61), (y9 62), (y9 63), (y9 64), (y9 65), (y9 66), (y9 67), (y9 68), (y9 69), (y9 70), (y9 71), (y9 72), (y9 73), (y9 74), (y9 75), (y9 76), (y9 77), (y9 78), (y9 79), (y9 80), (y9 81), (y9 82), (y9 83), (y9 84), (y9 85), (y9 86), (y9 87), (y9 88), (y9 89), (y9 90), (y9 91), (y9 92), (y9 93), (y9 94), (y9 95), (y9 96), (y9 97), (y9 98), (y9 99), (y9 100), (y9 101), (y9 102), (y9 103), (y9 104), (y9 105), (y9 106), (y9 107), (y9 108), (y9 109), (y9 110), .pointer (some ⟨bp, 0, none⟩), .slice a_u (ro_u.length) c_u, (y126 113), (y126 114), (y126 115), (y126 116), (y126 117), (y126 118), (y126 119), (y126 120), (y126 121), (y126 122), (y126 123), (y126 124), (y126 125), (y126 126), (y126 127), (y126 128), (y126 129), (y126 130), (y126 131), (y126 132), (y126 133), (y126 134), (y126 135), (y126 136), (y126 137), (y126 138), (y126 139), (y126 140), (y126 141), (y126 142), (y126 143), (y126 144), (y126 145), (y126 146), (y126 147), (y126 148), (y126 149), (y126 150), (y126 151), (y126 152), (y126 153), (y126 154), (y126 155), (y126 156), (y126 157), (y126 158), (y126 159), (y126 160), (y126 161), (y126 162), (y126 163), (y126 164), (y126 165), (y126 166), (y126 167), (y126 168), (y126 169), (y126 170), (y126 171), (y126 172), (y126 173), (y126 174), (y126 175), (y126 176), (y126 177), (y126 178), (y126 179), (y126 180), (y126 181), (y126 182), (y126 183), (y126 184), (y126 185), (y126 186), (y126 187), (y126 188), (y126 189), (y126 190), (y126 191), (y126 192), (y126 193), (y126 194), (y126 195), (y126 196), (y126 197), (y126 198), (y126 199), (y126 200), (y126 201), (y126 202), (y126 203), (y126 204)]) (((ro_u.length : Nat) - (0 : Int) + 1).toNat) ⟨0, rfl, rfl, hn, hf, (by omega), (by omega), getV [undef, undef, (y9 2), undef, undef, undef, undef, undef, undef, undef, undef, undef, undef, undef, undef, undef, undef, undef, undef, undef, undef, undef, undef, undef, undef, undef, undef, undef, undef, undef, undef, undef, undef, undef, undef, undef, undef, undef, undef, undef, undef, undef, undef, undef, undef, undef, undef, undef, undef, undef, undef, undef, undef, undef, undef, undef, undef, undef, undef, undef, undef, undef, undef, undef, undef, undef, undef, undef, undef, undef, undef, undef, undef, undef, undef, undef, undef, undef, undef, undef, undef, undef, undef, undef, undef, undef, undef, undef, undef, undef, undef, undef, undef, undef, undef, undef, undef, undef, undef, undef, undef, undef, undef, undef, undef, undef, undef, undef, undef, undef, undef, undef, undef, undef, undef, undef, undef, undef, undef, undef, undef, undef, undef, undef, undef, undef, undef, undef, undef, undef, undef, undef, undef, undef, undef, undef, undef, undef, undef, undef, undef, undef, undef, undef, undef, undef, undef, undef, undef, undef, undef, undef, undef, undef, undef, undef, undef, undef, undef, undef, undef, undef, undef, undef, undef, undef, undef, undef, undef, undef, undef, undef, undef, undef, undef, undef, undef, undef, undef, undef, undef, undef, undef, undef, undef, undef, undef, undef, undef, undef, undef, undef, undef, undef, undef, undef, undef, undef, undef, undef, undef, undef, undef, undef, undef], rfl⟩ ?_
   rintro d vs h123' n127 ⟨u, rfl, rfl, hn, hf, hu0, hu1, y126, rfl⟩
   refine AWp.seq (AWp.seq (AWp.rowV (l := _) pok ?_))
   refine sq.c (v := .int .i64 (u)) rfl rfl rfl rfl ?_
   refine sq.c (v := .slice a_u (ro_u.length) c_u) rfl rfl rfl rfl ?_
   refine sq.c (v := .int .i64 (((ro_u.length : Nat) : Int))) rfl rfl (by kernel_rfl) rfl ?_
   refine sq.c (v := .bool (decide (u < (((ro_u.length : Nat) : Int))))) rfl rfl rfl rfl ?_
   refine sq.e ?_
   by_cases c25_3 : u < (((ro_u.length : Nat) : Int))
   ·rw [decide_eq_true c25_3]
    refine AWp.condT rfl rfl ?_
    refine AWp.skip (AWp.seq (AWp.block (AWp.seq (AWp.rowV (l := _) pok ?_))))
    refine sq.c (v := .int .i64 (0)) rfl rfl rfl rfl ?_
    refine sq.e (AWp.block ?_)
    obtain ⟨x128, hx_x128⟩ : ∃ x, (ro_u)[(u : Int).toNat]? = some x := ⟨_, List.getElem?_eq_getElem (by omega)⟩
    obtain ⟨y_x128, hy_x128, hb_x128⟩ := D_u.at hx_x128
    obtain ⟨t_x128, ⟨a1_x128, n1_x128, c1_x128⟩, ⟨a2_x128, n2_x128, c2_x128⟩⟩ := x128
    obtain ⟨rfl, L_x128, M_x128⟩ := hb_x128
    obtain ⟨_, _, e1_x128⟩ := L_x128.slice
    cases e1_x128
    obtain ⟨_, _, e2_x128⟩ := M_x128.slice
    cases e2_x128
    have hml := (all_one hPi.inv (List.mem_of_getElem? hy_x128)).2.1
    refine AWp.loopV (fun d vs h123' n130 => ∃ (v : Int), d = ((y_x128.2.2.length : Nat) - v + 1).toNat ∧ h123 = h123' ∧ n ≤ n130 ∧ Free h123 n130 ∧ (0 ≤ v) ∧ (v ≤ (y_x128.2.2.length : Nat)) ∧ ∃ y129 : Nat → Value, vs = [.slice a (rs.length) cp, undef, (y129 2), .pointer (some ⟨bp, 0, none⟩), .slice a_o (os.length) cp_o, .int .i64 (i), (y9 6), (y9 7), (y9 8), (y9 9), (y9 10), (y9 11), .slice a_u (ro_u.length) c_u, .int .i64 (u), .int .i64 (v), (y129 15), (y129 16), (y129 17), .slice a (rs.length) cp, .bool false, .bool false, .bool true, .bool false, .bool false, undef, .pointer (some ⟨bp, 0, none⟩), .int .i64 (i), .slice a (rs.length) cp, .int .i64 (((rs.length : Nat) : Int)), .bool false, (y9 30), (y9 31), (y9 32), (y9 33), (y9 34), (y9 35), (y9 36), (y9 37), (y9 38), (y9 39), (y9 40), (y9 41), (y9 42), (y9 43), (y9 44), (y9 45), (y9 46), (y9 47), (y9 48), (y9 49), (y9 50), (y9 51), (y9 52), (y9 53), (y9 54), (y9 55), (y9 56), (y9 57), (y9 58), (y9 59), (y9 60), (y9 61), (y9 62), (y9 63), (y9 64), (y9 65), (y9 66), (y9 67), (y9 68), (y9 69), (y9 70), (y9 71), (y9 72), (y9 73), (y9 74), (y9 75), (y9 76), (y9 77), (y9 78), (y9 79), (y9 80), (y9 81), (y9 82), (y9 83), (y9 84), (y9 85), (y9 86), (y9 87), (y9 88), (y9 89), (y9 90), (y9 91), (y9 92), (y9 93), (y9 94), (y9 95), (y9 96), (y9 97), (y9 98), (y9 99), (y9 100), (y9 101), (y9 102), (y9 103), (y9 104), (y9 105), (y9 106), (y9 107), (y9 108), (y9 109), (y9 110), .pointer (some ⟨bp, 0, none⟩), .slice a_u (ro_u.length) c_u, .int .i64 (u), .slice a_u (ro_u.length) c_u, .int .i64 (((ro_u.length : Nat) : Int)), .bool true, (y126 117), (y126 118), (y129 119), (y129 120), (y129 121), (y129 122), (y129 123), (y129 124), (y129 125), (y129 126), (y129 127), (y129 128), (y129 129), (y129 130), (y129 131), (y129 132), (y129 133), (y129 134), (y129 135), (y129 136), (y129 137), (y129 138), (y129 139), (y129 140), (y129 141), (y129 142), (y129 143), (y129 144), (y129 145), (y129 146), (y129 147), (y129 148), (y129 149), (y129 150), (y129 151), (y129 152), (y129 153), (y129 154), (y129 155), (y129 156), (y129 157), (y129 158), (y129 159), (y129 160), (y129 161), (y129 162), (y129 163), (y129 164), (y129 165), (y129 166), (y129 167), (y129 168), (y129 169), (y129 170), (y129 171), (y129 172), (y129 173), (y129 174), (y129 175), (y129 176), (y129 177), (y129 178), (y129 179), (y129 180), (y129 181), (y129 182), (y129 183), (y129 184), (y129 185), (y129 186), (y129 187), (y129 188), (y129 189), (y129 190), (y129 191), (y129 192), (y129 193), (y129 194), (y129 195), (y129 196), (y129 197), (y129 198), (y129 199), (y129 200), (y129 201), (y129 202), (y129 203), (y129 204)]) (((y_x128.2.2.length : Nat) - (0 : Int) + 1).toNat) ⟨0, rfl, rfl, hn, hf, (by omega), (by omega), getV [undef, undef, (y126 2), undef, undef, undef, undef, undef, undef, undef, undef, undef, undef, undef, undef, (y126 15), (y126 16), (y126 17), undef, undef, undef, undef, undef, undef, undef, undef, undef, undef, undef, undef, undef, undef, undef, undef, undef, undef, undef, undef, undef, undef, undef, undef, undef, undef, undef, undef, undef, undef, undef, undef, undef, undef, undef, undef, undef, undef, undef, undef, undef, undef, undef, undef, undef, undef, undef, undef, undef, undef, undef, undef, undef, undef, undef, undef, undef, undef, undef, undef, undef, undef, undef, undef, undef, undef, undef, undef, undef, undef, undef, undef, undef, undef, undef, undef, undef, undef, undef, undef, undef, undef, undef, undef, undef, undef, undef, undef, undef, undef, undef, undef, undef, undef, undef, undef, undef, undef, undef, undef, undef, (y126 119), (y126 120), (y126 121), (y126 122), (y126 123), (y126 124), (y126 125), (y126 126), (y126 127), (y126 128), (y126 129), (y126 130), (y126 131), (y126 132), (y126 133), (y126 134), (y126 135), (y126 136), (y126 137), (y126 138), (y126 139), (y126 140), (y126 141), (y126 142), (y126 143), (y126 144), (y126 145), (y126 146), (y126 147), (y126 148), (y126 149), (y126 150), (y126 151), (y126 152), (y126 153), (y126 154), (y126 155), (y126 156), (y126 157), (y126 158), (y126 159), (y126 160), (y126 161), (y126 162), (y126 163), (y126 164), (y126 165), (y126 166), (y126 167), (y126 168), (y126 169), (y126 170), (y126 171), (y126 172), (y126 173), (y126 174), (y126 175), (y126 176), (y126 177), (y126 178), (y126 179), (y126 180), (y126 181), (y126 182), (y126 183), (y126 184), (y126 185), (y126 186), (y126 187), (y126 188), (y126 189), (y126 190), (y126 191), (y126 192), (y126 193), (y126 194), (y126 195), (y126 196), (y126 197), (y126 198), (y126 199), (y126 200), (y126 201), (y126 202), (y126 203), (y126 204)], rfl⟩ ?_
    rintro d vs h123' n130 ⟨v, rfl, rfl, hn, hf, hv0, hv1, y129, rfl⟩
    refine AWp.seq (AWp.seq (AWp.rowV (l := _) pok ?_))
    refine sq.c (v := .int .i64 (v)) rfl rfl rfl rfl ?_
    refine sq.c (v := .slice a_u (ro_u.length) c_u) rfl rfl rfl rfl ?_
    refine sq.c (v := .int .i64 (u)) rfl rfl rfl rfl ?_
    have i137 : (0 : Int) ≤ (u : Int) := by omega
    obtain ⟨b131, o132, cs_b131, ow_b131, ci_b131, ie136, hb133, hc134, hr135⟩ := IsRow.at (P := Tryd.prog) (t := 38) (e := 45) (k := .i64) (by kernel_rfl) (by kernel_rfl) R_u.is i137 hx_x128
    refine sq.c (v := .pointer (some ⟨b131, o132, none⟩)) rfl rfl ie136 rfl ?_
    refine sq.c (v := .pointer (some ⟨b131, o132 + 1, none⟩)) rfl rfl (by kernel_rfl) rfl ?_
    refine sq.c (v := .pointer (some ⟨b131, o132 + 2, none⟩)) rfl rfl (by kernel_rfl) rfl ?_
    refine sq.c (v := .slice a2_x128 (y_x128.2.2.length) c2_x128) rfl rfl (ld1 (P := Tryd.prog) (t := 41) (p := o132 + 2) (v := .slice a2_x128 (y_x128.2.2.length) c2_x128) (by kernel_rfl) (by kernel_rfl) hb133 (hc134 2 _ rfl)) rfl ?_
    refine sq.c (v := .int .i64 (((y_x128.2.2.length : Nat) : Int))) rfl rfl (by kernel_rfl) rfl ?_
    refine sq.c (v := .bool (decide (v < (((y_x128.2.2.length : Nat) : Int))))) rfl rfl rfl rfl ?_
    refine sq.e ?_
    by_cases c28_8 : v < (((y_x128.2.2.length : Nat) : Int))
    ·rw [decide_eq_true c28_8]
     refine AWp.condT rfl rfl ?_
     refine AWp.skip (AWp.seq (AWp.block (AWp.seq (AWp.rowV (l := _) pok ?_))))
     refine sq.c (v := .bool false) rfl rfl rfl rfl ?_
     refine sq.e (AWp.seq (AWp.seq (AWp.rowV (l := _) pok ?_)))
     refine sq.c (v := .int .i64 (0)) rfl rfl rfl rfl ?_
     refine sq.e (AWp.block ?_)
     obtain ⟨x138, hx_x138⟩ : ∃ x, (y_x128.2.2)[(v : Int).toNat]? = some x := ⟨_, List.getElem?_eq_getElem (by omega)⟩
     refine AWp.loopV (fun d vs h123' n140 => ∃ (wi : Int) (fd : Bool), d = ((os.length : Nat) - wi + 1).toNat ∧ h123 = h123' ∧ n ≤ n140 ∧ Free h123 n140 ∧ (0 ≤ wi) ∧ (wi ≤ (os.length : Nat)) ∧ (fd = false → ∀ b ∈ tk.take wi.toNat, ∀ s ∈ b.ser, ¬ (b.ten = y_x128.1 ∧ s.1 = y_x128.2.1 ∧ x138 ∈ s.2)) ∧ ∃ y139 : Nat → Value, vs = [.slice a (rs.length) cp, undef, (y129 2), .pointer (some ⟨bp, 0, none⟩), .slice a_o (os.length) cp_o, .int .i64 (i), (y9 6), (y9 7), (y9 8), (y9 9), (y9 10), (y9 11), .slice a_u (ro_u.length) c_u, .int .i64 (u), .int .i64 (v), .bool (fd), .int .i64 (wi), (y139 17), .slice a (rs.length) cp, .bool false, .bool false, .bool true, .bool false, .bool false, undef, .pointer (some ⟨bp, 0, none⟩), .int .i64 (i), .slice a (rs.length) cp, .int .i64 (((rs.length : Nat) : Int)), .bool false, (y9 30), (y9 31), (y9 32), (y9 33), (y9 34), (y9 35), (y9 36), (y9 37), (y9 38), (y9 39), (y9 40), (y9 41), (y9 42), (y9 43), (y9 44), (y9 45), (y9 46), (y9 47), (y9 48), (y9 49), (y9 50), (y9 51), (y9 52), (y9 53), (y9 54), (y9 55), (y9 56), (y9 57), (y9 58), (y9 59), (y9 60), (y9 61), (y9 62), (y9 63), (y9 64), (y9 65), (y9 66), (y9 67), (y9 68), (y9 69), (y9 70), (y9 71), (y9 72), (y9 73), (y9 74), (y9 75), (y9 76), (y9 77), (y9 78), (y9 79), (y9 80), (y9 81), (y9 82), (y9 83), (y9 84), (y9 85), (y9 86), (y9 87), (y9 88), (y9 89), (y9 90), (y9 91), (y9 92), (y9 93), (y9 94), (y9 95), (y9 96), (y9 97), (y9 98), (y9 99), (y9 100), (y9 101), (y9 102), (y9 103), (y9 104), (y9 105), (y9 106), (y9 107), (y9 108), (y9 109), (y9 110), .pointer (some ⟨bp, 0, none⟩), .slice a_u (ro_u.length) c_u, .int .i64 (u), .slice a_u (ro_u.length) c_u, .int .i64 (((ro_u.length : Nat) : Int)), .bool true, (y126 117), (y126 118), .int .i64 (v), .slice a_u (ro_u.length) c_u, .int .i64 (u), .pointer (some ⟨b131, o132, none⟩), .pointer (some ⟨b131, o132 + 1, none⟩), .pointer (some ⟨b131, o132 + 2, none⟩), .slice a2_x128 (y_x128.2.2.length) c2_x128, .int .i64 (((y_x128.2.2.length : Nat) : Int)), .bool true, (y129 128), (y129 129), (y139 130), (y139 131), (y139 132), (y139 133), (y139 134), (y139 135), (y139 136), (y139 137), (y139 138), (y139 139), (y139 140), (y139 141), (y139 142), (y139 143), (y139 144), (y139 145), (y139 146), (y139 147), (y139 148), (y139 149), (y139 150), (y139 151), (y139 152), (y139 153), (y139 154), (y139 155), (y139 156), (y139 157), (y139 158), (y139 159), (y139 160), (y139 161), (y139 162), (y139 163), (y139 164), (y139 165), (y139 166), (y139 167), (y139 168), (y139 169), (y139 170), (y139 171), (y139 172), (y139 173), (y139 174), (y139 175), (y139 176), (y139 177), (y139 178), (y139 179), (y139 180), (y139 181), (y139 182), (y139 183), (y139 184), (y139 185), (y139 186), (y139 187), (y139 188), (y139 189), (y139 190), (y139 191), (y139 192), (y139 193), (y139 194), (y139 195), (y139 196), (y139 197), (y139 198), (y139 199), (y139 200), (y139 201), (y139 202), (y129 203), (y129 204)]) (((os.length : Nat) - (0 : Int) + 1).toNat) ⟨0, false, rfl, rfl, hn, hf, (by omega), (by omega), (fun _ b hb => by simp at hb), getV [undef, undef, undef, undef, undef, undef, undef, undef, undef, undef, undef, undef, undef, undef, undef, undef, undef, (y129 17), undef, undef, undef, undef, undef, undef, undef, undef, undef, undef, undef, undef, undef, undef, undef, undef, undef, undef, undef, undef, undef, undef, undef, undef, undef, undef, undef, undef, undef, undef, undef, undef, undef, undef, undef, undef, undef, undef, undef, undef, undef, undef, undef, undef, undef, undef, undef, undef, undef, undef, undef, undef, undef, undef, undef, undef, undef, undef, undef, undef, undef, undef, undef, undef, undef, undef, undef, undef, undef, undef, undef, undef, undef, undef, undef, undef, undef, undef, undef, undef, undef, undef, undef, undef, undef, undef, undef, undef, undef, undef, undef, undef, undef, undef, undef, undef, undef, undef, undef, undef, undef, undef, undef, undef, undef, undef, undef, undef, undef, undef, undef, undef, (y129 130), (y129 131), (y129 132), (y129 133), (y129 134), (y129 135), (y129 136), (y129 137), (y129 138), (y129 139), (y129 140), (y129 141), (y129 142), (y129 143), (y129 144), (y129 145), (y129 146), (y129 147), (y129 148), (y129 149), (y129 150), (y129 151), (y129 152), (y129 153), (y129 154), (y129 155), (y129 156), (y129 157), (y129 158), (y129 159), (y129 160), (y129 161), (y129 162), (y129 163), (y129 164), (y129 165), (y129 166), (y129 167), (y129 168), (y129 169), (y129 170), (y129 171), (y129 172), (y129 173), (y129 174), (y129 175), (y129 176), (y129 177), (y129 178), (y129 179), (y129 180), (y129 181), (y129 182), (y129 183), (y129 184), (y129 185), (y129 186), (y129 187), (y129 188), (y129 189), (y129 190), (y129 191), (y129 192), (y129 193), (y129 194), (y129 195), (y129 196), (y129 197), (y129 198), (y129 199), (y129 200), (y129 201), (y129 202)], rfl⟩ ?_
     rintro d vs h123' n140 ⟨wi, fd, rfl, rfl, hn, hf, hw0, hw1, hfd, y139, rfl⟩
     refine AWp.seq (AWp.seq (AWp.rowV (l := _) pok ?_))
     refine sq.c (v := .int .i64 (wi)) rfl rfl rfl rfl ?_
     refine sq.c (v := .slice a_o (os.length) cp_o) rfl rfl rfl rfl ?_
     refine sq.c (v := .int .i64 (((os.length : Nat) : Int))) rfl rfl (by kernel_rfl) rfl ?_
     refine sq.c (v := .bool (decide (wi < (((os.length : Nat) : Int))))) rfl rfl rfl rfl ?_
     refine sq.c (v := .bool (decide (wi < (((os.length : Nat) : Int))))) rfl rfl rfl rfl ?_
     by_cases c32_3 : wi < (((os.length : Nat) : Int))
     ·rw [decide_eq_true c32_3]
      refine sq.c (v := .bool (fd)) (wantT (g := 4) (d := 134) rfl rfl rfl) rfl rfl rfl ?_
      rcases Bool.eq_false_or_eq_true (fd) with cfd | cfd
      ·rw [cfd]
       refine sq.c (v := .bool false) (wantT (g := 4) (d := 134) rfl rfl rfl) rfl rfl rfl ?_
       refine sq.c (v := .bool false) rfl rfl rfl rfl ?_
       refine sq.e ?_
       refine AWp.condF rfl rfl ?_
       refine AWp.exit ?_
       refine AWp.seq (AWp.rowV (l := _) pok ?_)
       refine sq.c (v := .bool true) rfl rfl rfl rfl ?_
       refine sq.c (v := .bool false) rfl rfl rfl rfl ?_
       refine sq.e ?_
       refine AWp.condF rfl rfl ?_
       refine AWp.skip (AWp.rowV (l := _) pok ?_)
       refine sq.c (v := .int .i64 (v)) rfl rfl rfl rfl ?_
       refine sq.c (v := .int .i64 (v + 1)) rfl rfl (okI (wrap_i64 (by omega) (by omega))) rfl ?_
       refine sq.c (v := .int .i64 (v + 1)) rfl rfl rfl rfl ?_
       refine sq.e ?_
       refine ⟨_, _, rfl, (by omega), v + 1, rfl, rfl, hn, hf, (by omega), (by omega), getV [undef, undef, (y129 2), undef, undef, undef, undef, undef, undef, undef, undef, undef, undef, undef, undef, .bool true, .int .i64 (wi), (y139 17), undef, undef, undef, undef, undef, undef, undef, undef, undef, undef, undef, undef, undef, undef, undef, undef, undef, undef, undef, undef, undef, undef, undef, undef, undef, undef, undef, undef, undef, undef, undef, undef, undef, undef, undef, undef, undef, undef, undef, undef, undef, undef, undef, undef, undef, undef, undef, undef, undef, undef, undef, undef, undef, undef, undef, undef, undef, undef, undef, undef, undef, undef, undef, undef, undef, undef, undef, undef, undef, undef, undef, undef, undef, undef, undef, undef, undef, undef, undef, undef, undef, undef, undef, undef, undef, undef, undef, undef, undef, undef, undef, undef, undef, undef, undef, undef, undef, undef, undef, undef, undef, .int .i64 (v), .slice a_u (ro_u.length) c_u, .int .i64 (u), .pointer (some ⟨b131, o132, none⟩), .pointer (some ⟨b131, o132 + 1, none⟩), .pointer (some ⟨b131, o132 + 2, none⟩), .slice a2_x128 (y_x128.2.2.length) c2_x128, .int .i64 (((y_x128.2.2.length : Nat) : Int)), .bool true, .int .i64 (v), .int .i64 (v + 1), .int .i64 (wi), .slice a_o (os.length) cp_o, .int .i64 (((os.length : Nat) : Int)), .bool true, .bool true, .bool true, .bool false, .bool false, (y139 138), (y139 139), (y139 140), (y139 141), (y139 142), (y139 143), (y139 144), (y139 145), (y139 146), (y139 147), (y139 148), (y139 149), (y139 150), (y139 151), (y139 152), (y139 153), (y139 154), (y139 155), (y139 156), (y139 157), (y139 158), (y139 159), (y139 160), (y139 161), (y139 162), (y139 163), (y139 164), (y139 165), (y139 166), (y139 167), (y139 168), (y139 169), (y139 170), (y139 171), (y139 172), (y139 173), (y139 174), (y139 175), (y139 176), (y139 177), (y139 178), (y139 179), (y139 180), (y139 181), (y139 182), (y139 183), (y139 184), (y139 185), (y139 186), (y139 187), (y139 188), (y139 189), (y139 190), (y139 191), (y139 192), (y139 193), (y139 194), (y139 195), (y139 196), (y139 197), (y139 198), (y139 199), (y139 200), (y139 201), (y139 202), .bool true, .bool false], rfl⟩
      ·rw [cfd]
       refine sq.c (v := .bool true) rfl rfl rfl rfl ?_
       refine sq.c (v := .bool true) rfl rfl rfl rfl ?_
       refine sq.e ?_
       refine AWp.condT rfl rfl ?_
       refine AWp.skip (AWp.seq (AWp.block (AWp.seq (AWp.rowV (l := _) pok ?_))))
       refine sq.c (v := .int .i64 (0)) rfl rfl rfl rfl ?_
       refine sq.e (AWp.block ?_)
       obtain ⟨x141, hx_x141⟩ : ∃ x, (os)[(wi : Int).toNat]? = some x := ⟨_, List.getElem?_eq_getElem (by omega)⟩
       obtain ⟨y_x141, hy_x141, hb_x141⟩ := D.atO hx_x141
       obtain ⟨t_x141, c_x141, e_x141, ⟨a_x141, n_x141, k_x141⟩⟩ := x141
       obtain ⟨u1_x141, u2_x141, u3_x141, rs_x141, R_x141, D_x141⟩ := hb_x141
       simp only [batV] at u1_x141 u2_x141 u3_x141
       subst u1_x141 u2_x141 u3_x141
       obtain ⟨_, _, e1_x141⟩ := (show FRow encSer _ (hdV (a_x141, n_x141, k_x141)) rs_x141 from R_x141).slice
       cases e1_x141
       change FRow encSer _ (.slice a_x141 rs_x141.length k_x141) rs_x141 at R_x141
       have hrO := D_x141.1
       have hsO := (htk _ (List.mem_of_getElem? hy_x141)).2.2
       have hsO1 := hsO.1
       refine AWp.loopV (fun d vs h123' n143 => ∃ (z : Int) (fe : Bool), d = ((rs_x141.length : Nat) - z + 1).toNat ∧ h123 = h123' ∧ n ≤ n143 ∧ Free h123 n143 ∧ (0 ≤ z) ∧ (z ≤ (rs_x141.length : Nat)) ∧ (fe = false → ∀ s ∈ y_x141.ser.take z.toNat, ¬ (y_x141.ten = y_x128.1 ∧ s.1 = y_x128.2.1 ∧ x138 ∈ s.2)) ∧ ∃ y142 : Nat → Value, vs = [.slice a (rs.length) cp, undef, (y129 2), .pointer (some ⟨bp, 0, none⟩), .slice a_o (os.length) cp_o, .int .i64 (i), (y9 6), (y9 7), (y9 8), (y9 9), (y9 10), (y9 11), .slice a_u (ro_u.length) c_u, .int .i64 (u), .int .i64 (v), .bool (fe), .int .i64 (wi), .int .i64 (z), .slice a (rs.length) cp, .bool false, .bool false, .bool true, .bool false, .bool false, undef, .pointer (some ⟨bp, 0, none⟩), .int .i64 (i), .slice a (rs.length) cp, .int .i64 (((rs.length : Nat) : Int)), .bool false, (y9 30), (y9 31), (y9 32), (y9 33), (y9 34), (y9 35), (y9 36), (y9 37), (y9 38), (y9 39), (y9 40), (y9 41), (y9 42), (y9 43), (y9 44), (y9 45), (y9 46), (y9 47), (y9 48), (y9 49), (y9 50), (y9 51), (y9 52), (y9 53), (y9 54), (y9 55), (y9 56), (y9 57), (y9 58), (y9 59), (y9 60), (y9 61), (y9 62), (y9 63), (y9 64), (y9 65), (y9 66), (y9 67), (y9 68), (y9 69), (y9 70), (y9 71), (y9 72), (y9 73), (y9 74), (y9 75), (y9 76), (y9 77), (y9 78), (y9 79), (y9 80), (y9 81), (y9 82), (y9 83), (y9 84), (y9 85), (y9 86), (y9 87), (y9 88), (y9 89), (y9 90), (y9 91), (y9 92), (y9 93), (y9 94), (y9 95), (y9 96), (y9 97), (y9 98), (y9 99), (y9 100), (y9 101), (y9 102), (y9 103), (y9 104), (y9 105), (y9 106), (y9 107), (y9 108), (y9 109), (y9 110), .pointer (some ⟨bp, 0, none⟩), .slice a_u (ro_u.length) c_u, .int .i64 (u), .slice a_u (ro_u.length) c_u, .int .i64 (((ro_u.length : Nat) : Int)), .bool true, (y126 117), (y126 118), .int .i64 (v), .slice a_u (ro_u.length) c_u, .int .i64 (u), .pointer (some ⟨b131, o132, none⟩), .pointer (some ⟨b131, o132 + 1, none⟩), .pointer (some ⟨b131, o132 + 2, none⟩), .slice a2_x128 (y_x128.2.2.length) c2_x128, .int .i64 (((y_x128.2.2.length : Nat) : Int)), .bool true, (y129 128), (y129 129), .int .i64 (wi), .slice a_o (os.length) cp_o, .int .i64 (((os.length : Nat) : Int)), .bool true, .bool true, .bool false, .bool true, .bool true, (y139 138), (y139 139), (y142 140), (y142 141), (y142 142), (y142 143), (y142 144), (y142 145), (y142 146), (y142 147), (y142 148), (y142 149), (y142 150), (y142 151), (y142 152), (y142 153), (y142 154), (y142 155), (y142 156), (y142 157), (y142 158), (y142 159), (y142 160), (y142 161), (y142 162), (y142 163), (y142 164), (y142 165), (y142 166), (y142 167), (y142 168), (y142 169), (y142 170), (y142 171), (y142 172), (y142 173), (y142 174), (y142 175), (y142 176), (y142 177), (y142 178), (y142 179), (y142 180), (y142 181), (y142 182), (y142 183), (y142 184), (y142 185), (y142 186), (y142 187), (y142 188), (y142 189), (y142 190), (y142 191), (y142 192), (y142 193), (y142 194), (y142 195), (y142 196), (y142 197), (y142 198), (y142 199), (y142 200), (y142 201), (y142 202), (y129 203), (y129 204)]) (((rs_x141.length : Nat) - (0 : Int) + 1).toNat) ⟨0, false, rfl, rfl, hn, hf, (by omega), (by omega), (fun _ s hs9 => by simp at hs9), getV [undef, undef, undef, undef, undef, undef, undef, undef, undef, undef, undef, undef, undef, undef, undef, undef, undef, undef, undef, undef, undef, undef, undef, undef, undef, undef, undef, undef, undef, undef, undef, undef, undef, undef, undef, undef, undef, undef, undef, undef, undef, undef, undef, undef, undef, undef, undef, undef, undef, undef, undef, undef, undef, undef, undef, undef, undef, undef, undef, undef, undef, undef, undef, undef, undef, undef, undef, undef, undef, undef, undef, undef, undef, undef, undef, undef, undef, undef, undef, undef, undef, undef, undef, undef, undef, undef, undef, undef, undef, undef, undef, undef, undef, undef, undef, undef, undef, undef, undef, undef, undef, undef, undef, undef, undef, undef, undef, undef, undef, undef, undef, undef, undef, undef, undef, undef, undef, undef, undef, undef, undef, undef, undef, undef, undef, undef, undef, undef, undef, undef, undef, undef, undef, undef, undef, undef, undef, undef, undef, undef, (y139 140), (y139 141), (y139 142), (y139 143), (y139 144), (y139 145), (y139 146), (y139 147), (y139 148), (y139 149), (y139 150), (y139 151), (y139 152), (y139 153), (y139 154), (y139 155), (y139 156), (y139 157), (y139 158), (y139 159), (y139 160), (y139 161), (y139 162), (y139 163), (y139 164), (y139 165), (y139 166), (y139 167), (y139 168), (y139 169), (y139 170), (y139 171), (y139 172), (y139 173), (y139 174), (y139 175), (y139 176), (y139 177), (y139 178), (y139 179), (y139 180), (y139 181), (y139 182), (y139 183), (y139 184), (y139 185), (y139 186), (y139 187), (y139 188), (y139 189), (y139 190), (y139 191), (y139 192), (y139 193), (y139 194), (y139 195), (y139 196), (y139 197), (y139 198), (y139 199), (y139 200), (y139 201), (y139 202)], rfl⟩ ?_
       rintro d vs h123' n143 ⟨z, fe, rfl, rfl, hn, hf, hz0, hz1, hfe, y142, rfl⟩
       refine AWp.seq (AWp.seq (AWp.rowV (l := _) pok ?_))
       refine sq.c (v := .int .i64 (z)) rfl rfl rfl rfl ?_
       refine sq.c (v := .slice a_o (os.length) cp_o) rfl rfl rfl rfl ?_
       refine sq.c (v := .int .i64 (wi)) rfl rfl rfl rfl ?_
       have i150 : (0 : Int) ≤ (wi : Int) := by omega
       obtain ⟨b144, o145, cs_b144, ow_b144, ci_b144, ie149, hb146, hc147, hr148⟩ := IsRow.at (P := Tryd.prog) (t := 22) (e := 31) (k := .i64) (by kernel_rfl) (by kernel_rfl) R_o.is i150 hx_x141
       refine sq.c (v := .pointer (some ⟨b144, o145, none⟩)) rfl rfl ie149 rfl ?_
       refine sq.c (v := .pointer (some ⟨b144, o145 + 3, none⟩)) rfl rfl (by kernel_rfl) rfl ?_
       refine sq.c (v := .slice a_x141 (rs_x141.length) k_x141) rfl rfl (ld1 (P := Tryd.prog) (t := 29) (p := o145 + 3) (v := .slice a_x141 (rs_x141.length) k_x141) (by kernel_rfl) (by kernel_rfl) hb146 (hc147 3 _ rfl)) rfl ?_
       refine sq.c (v := .int .i64 (((rs_x141.length : Nat) : Int))) rfl rfl (by kernel_rfl) rfl ?_
       refine sq.c (v := .bool (decide (z < (((rs_x141.length : Nat) : Int))))) rfl rfl rfl rfl ?_
       refine sq.e ?_
       by_cases c35_7 : z < (((rs_x141.length : Nat) : Int))
       ·rw [decide_eq_true c35_7]
        refine AWp.condT rfl rfl ?_
        refine AWp.skip (AWp.seq (AWp.block ?_))
        refine AWp.anyK pok [0, 1, 2, 3, 4, 5, 6, 7, 8, 9, 10, 11, 12, 13, 14, 15, 16, 17, 18, 19, 20, 21, 22, 23, 24, 25, 26, 27, 28, 29, 30, 31, 32, 33, 34, 35, 36, 37, 38, 39, 40, 41, 42, 43, 44, 45, 46, 47, 48, 49, 50, 51, 52, 53] (by kernel_rfl) (by kernel_rfl) rfl (fun x fr fr' h n hd _ q => ⟨hd ▸ q.1, q.2⟩) ?_
        refine dk.c (v := .bool (fe)) rfl (by kernel_rfl) rfl rfl rfl rfl ?_
        refine dk.c (v := .bool (fe)) rfl (by kernel_rfl) rfl rfl rfl rfl ?_
        rcases Bool.eq_false_or_eq_true (fe) with cfe | cfe
        ·rw [cfe]
         refine dk.s rfl (wantF (g := 1) (d := 151) rfl rfl rfl) rfl ?_
         refine dk.s rfl (wantF (g := 1) (d := 151) rfl rfl rfl) rfl ?_
         refine dk.s rfl (wantF (g := 1) (d := 151) rfl rfl rfl) rfl ?_
         refine dk.s rfl (wantF (g := 1) (d := 151) rfl rfl rfl) rfl ?_
         refine dk.s rfl (wantF (g := 1) (d := 151) rfl rfl rfl) rfl ?_
         refine dk.s rfl (wantF (g := 1) (d := 151) rfl rfl rfl) rfl ?_
         refine dk.s rfl (wantF (g := 1) (d := 151) rfl rfl rfl) rfl ?_
         refine dk.s rfl (wantF (g := 1) (d := 151) rfl rfl rfl) rfl ?_
         refine dk.s rfl (wantF (g := 1) (d := 151) rfl rfl rfl) rfl ?_
         refine dk.s rfl (wantF (g := 1) (d := 151) rfl rfl rfl) rfl ?_
         refine dk.s rfl (wantF (g := 1) (d := 151) rfl rfl rfl) rfl ?_
         refine dk.s rfl (wantF (g := 1) (d := 151) rfl rfl rfl) rfl ?_
         refine dk.s rfl (wantU (g := 13) (d := 163) rfl rfl rfl) rfl ?_
         refine dk.s rfl (wantU (g := 13) (d := 163) rfl rfl rfl) rfl ?_
         refine dk.s rfl (wantU (g := 13) (d := 163) rfl rfl rfl) rfl ?_
         refine dk.s rfl (wantU (g := 13) (d := 163) rfl rfl rfl) rfl ?_
         refine dk.s rfl (wantU (g := 13) (d := 163) rfl rfl rfl) rfl ?_
         refine dk.s rfl (wantU (g := 13) (d := 163) rfl rfl rfl) rfl ?_
         refine dk.s rfl (wantU (g := 13) (d := 163) rfl rfl rfl) rfl ?_
         refine dk.s rfl (wantU (g := 13) (d := 163) rfl rfl rfl) rfl ?_
         refine dk.s rfl (wantU (g := 13) (d := 163) rfl rfl rfl) rfl ?_
         refine dk.s rfl (wantU (g := 13) (d := 163) rfl rfl rfl) rfl ?_
         refine dk.s rfl (wantU (g := 13) (d := 163) rfl rfl rfl) rfl ?_
         refine dk.s rfl (wantU (g := 13) (d := 163) rfl rfl rfl) rfl ?_
         refine dk.s rfl (wantU (g := 13) (d := 163) rfl rfl rfl) rfl ?_
         refine dk.s rfl (wantU (g := 13) (d := 163) rfl rfl rfl) rfl ?_
         refine dk.s rfl (wantU (g := 13) (d := 163) rfl rfl rfl) rfl ?_
         refine dk.s rfl (wantU (g := 13) (d := 163) rfl rfl rfl) rfl ?_
         refine dk.s rfl (wantF (g := 1) (d := 151) rfl rfl rfl) rfl ?_
         refine dk.s rfl (wantF (g := 1) (d := 151) rfl rfl rfl) rfl ?_
         refine dk.s rfl (wantU (g := 31) (d := 181) rfl rfl rfl) rfl ?_
         refine dk.s rfl (wantU (g := 31) (d := 181) rfl rfl rfl) rfl ?_
         refine dk.s rfl (wantU (g := 31) (d := 181) rfl rfl rfl) rfl ?_
         refine dk.s rfl (wantU (g := 31) (d := 181) rfl rfl rfl) rfl ?_
         refine dk.s rfl (wantU (g := 31) (d := 181) rfl rfl rfl) rfl ?_
         refine dk.s rfl (wantU (g := 31) (d := 181) rfl rfl rfl) rfl ?_
         refine dk.s rfl (wantU (g := 31) (d := 181) rfl rfl rfl) rfl ?_
         refine dk.s rfl (wantU (g := 31) (d := 181) rfl rfl rfl) rfl ?_
         refine dk.s rfl (wantU (g := 31) (d := 181) rfl rfl rfl) rfl ?_
         refine dk.s rfl (wantU (g := 31) (d := 181) rfl rfl rfl) rfl ?_
         refine dk.s rfl (wantU (g := 31) (d := 181) rfl rfl rfl) rfl ?_
         refine dk.s rfl (wantU (g := 31) (d := 181) rfl rfl rfl) rfl ?_
         refine dk.s rfl (wantU (g := 31) (d := 181) rfl rfl rfl) rfl ?_
         refine dk.s rfl (wantU (g := 31) (d := 181) rfl rfl rfl) rfl ?_
         refine dk.s rfl (wantU (g := 31) (d := 181) rfl rfl rfl) rfl ?_
         refine dk.s rfl (wantU (g := 31) (d := 181) rfl rfl rfl) rfl ?_
         refine dk.s rfl (wantU (g := 31) (d := 181) rfl rfl rfl) rfl ?_
         refine dk.s rfl (wantU (g := 31) (d := 181) rfl rfl rfl) rfl ?_
         refine dk.s rfl (wantU (g := 31) (d := 181) rfl rfl rfl) rfl ?_
         refine dk.s rfl (wantF (g := 1) (d := 151) rfl rfl rfl) rfl ?_
         refine dk.c (v := .bool true) rfl (by kernel_rfl) rfl rfl rfl rfl ?_
         refine dk.c (v := .bool true) rfl (by kernel_rfl) rfl rfl rfl rfl ?_
         refine dk.e (AWp.rowV (l := _) pok ?_)
         refine sq.c (v := .int .i64 (z)) rfl rfl rfl rfl ?_
         refine sq.c (v := .int .i64 (z + 1)) rfl rfl (okI (wrap_i64 (by omega) (by omega))) rfl ?_
         refine sq.c (v := .int .i64 (z + 1)) rfl rfl rfl rfl ?_
         refine sq.e ?_
         have hfe3 : true = false → ∀ s ∈ y_x141.ser.take (z + 1).toNat, ¬ (y_x141.ten = y_x128.1 ∧ s.1 = y_x128.2.1 ∧ x138 ∈ s.2) := fun q => by cases q
         refine ⟨_, _, rfl, (by omega), z + 1, true, rfl, rfl, hn, hf, (by omega), (by omega), (hfe3), getV [undef, undef, undef, undef, undef, undef, undef, undef, undef, undef, undef, undef, undef, undef, undef, undef, undef, undef, undef, undef, undef, undef, undef, undef, undef, undef, undef, undef, undef, undef, undef, undef, undef, undef, undef, undef, undef, undef, undef, undef, undef, undef, undef, undef, undef, undef, undef, undef, undef, undef, undef, undef, undef, undef, undef, undef, undef, undef, undef, undef, undef, undef, undef, undef, undef, undef, undef, undef, undef, undef, undef, undef, undef, undef, undef, undef, undef, undef, undef, undef, undef, undef, undef, undef, undef, undef, undef, undef, undef, undef, undef, undef, undef, undef, undef, undef, undef, undef, undef, undef, undef, undef, undef, undef, undef, undef, undef, undef, undef, undef, undef, undef, undef, undef, undef, undef, undef, undef, undef, undef, undef, undef, undef, undef, undef, undef, undef, undef, undef, undef, undef, undef, undef, undef, undef, undef, undef, undef, undef, undef, .int .i64 (z), .slice a_o (os.length) cp_o, .int .i64 (wi), .pointer (some ⟨b144, o145, none⟩), .pointer (some ⟨b144, o145 + 3, none⟩), .slice a_x141 (rs_x141.length) k_x141, .int .i64 (((rs_x141.length : Nat) : Int)), .bool true, .int .i64 (z), .int .i64 (z + 1), .bool true, .bool true, undef, undef, undef, undef, undef, undef, undef, undef, undef, undef, undef, undef, undef, undef, undef, undef, undef, undef, undef, undef, undef, undef, undef, undef, undef, undef, undef, undef, undef, undef, undef, undef, undef, undef, undef, undef, undef, undef, undef, undef, undef, undef, undef, undef, undef, undef, undef, undef, undef, undef, .bool true], rfl⟩
        ·rw [cfe]
         refine dk.c (v := .slice a_o (os.length) cp_o) rfl (by kernel_rfl) (wantT (g := 1) (d := 151) rfl rfl rfl) rfl rfl rfl ?_
         refine dk.c (v := .int .i64 (wi)) rfl (by kernel_rfl) (wantT (g := 1) (d := 151) rfl rfl rfl) rfl rfl rfl ?_
         have i157 : (0 : Int) ≤ (wi : Int) := by omega
         obtain ⟨b151, o152, cs_b151, ow_b151, ci_b151, ie156, hb153, hc154, hr155⟩ := IsRow.at (P := Tryd.prog) (t := 22) (e := 31) (k := .i64) (by kernel_rfl) (by kernel_rfl) R_o.is i157 hx_x141
         refine dk.c (v := .pointer (some ⟨b151, o152, none⟩)) rfl (by kernel_rfl) (wantT (g := 1) (d := 151) rfl rfl rfl) rfl ie156 rfl ?_
         refine dk.c (v := .pointer (some ⟨b151, o152, none⟩)) rfl (by kernel_rfl) (wantT (g := 1) (d := 151) rfl rfl rfl) rfl (by kernel_rfl) rfl ?_
         refine dk.gB (v := .string (y_x141.ten)) b151 rfl (by kernel_rfl) (wantT (g := 1) (d := 151) rfl rfl rfl) rfl (fun _ q_ => (ld1 (P := Tryd.prog) (t := 9) (p := o152 + 0) (v := .string (y_x141.ten)) (by kernel_rfl) (by kernel_rfl) (q_ _ hb153) (hc154 0 _ rfl))) rfl ?_
         refine dk.c (v := .slice a_u (ro_u.length) c_u) rfl (by kernel_rfl) (wantT (g := 1) (d := 151) rfl rfl rfl) rfl rfl rfl ?_
         refine dk.c (v := .int .i64 (u)) rfl (by kernel_rfl) (wantT (g := 1) (d := 151) rfl rfl rfl) rfl rfl rfl ?_
         have i164 : (0 : Int) ≤ (u : Int) := by omega
         obtain ⟨b158, o159, cs_b158, ow_b158, ci_b158, ie163, hb160, hc161, hr162⟩ := IsRow.at (P := Tryd.prog) (t := 38) (e := 45) (k := .i64) (by kernel_rfl) (by kernel_rfl) R_u.is i164 hx_x128
         refine dk.c (v := .pointer (some ⟨b158, o159, none⟩)) rfl (by kernel_rfl) (wantT (g := 1) (d := 151) rfl rfl rfl) rfl ie163 rfl ?_
         refine dk.c (v := .pointer (some ⟨b158, o159, none⟩)) rfl (by kernel_rfl) (wantT (g := 1) (d := 151) rfl rfl rfl) rfl (by kernel_rfl) rfl ?_
         refine dk.gB (v := .string (y_x128.1)) b158 rfl (by kernel_rfl) (wantT (g := 1) (d := 151) rfl rfl rfl) rfl (fun _ q_ => (ld1 (P := Tryd.prog) (t := 9) (p := o159 + 0) (v := .string (y_x128.1)) (by kernel_rfl) (by kernel_rfl) (q_ _ hb160) (hc161 0 _ rfl))) rfl ?_
         refine dk.c (v := .bool (decide (y_x141.ten = y_x128.1))) rfl (by kernel_rfl) (wantT (g := 1) (d := 151) rfl rfl rfl) rfl (eqD _ _) rfl ?_
         refine dk.c (v := .bool (decide (y_x141.ten = y_x128.1))) rfl (by kernel_rfl) (wantT (g := 1) (d := 151) rfl rfl rfl) rfl rfl rfl ?_
         by_cases c37_12 : y_x141.ten = y_x128.1
         ·rw [decide_eq_true c37_12]
          refine dk.c (v := .slice a_o (os.length) cp_o) rfl (by kernel_rfl) (wantT (g := 13) (d := 163) rfl rfl rfl) rfl rfl rfl ?_
          refine dk.c (v := .int .i64 (wi)) rfl (by kernel_rfl) (wantT (g := 13) (d := 163) rfl rfl rfl) rfl rfl rfl ?_
          have i171 : (0 : Int) ≤ (wi : Int) := by omega
          obtain ⟨b165, o166, cs_b165, ow_b165, ci_b165, ie170, hb167, hc168, hr169⟩ := IsRow.at (P := Tryd.prog) (t := 22) (e := 31) (k := .i64) (by kernel_rfl) (by kernel_rfl) R_o.is i171 hx_x141
          refine dk.c (v := .pointer (some ⟨b165, o166, none⟩)) rfl (by kernel_rfl) (wantT (g := 13) (d := 163) rfl rfl rfl) rfl ie170 rfl ?_
          refine dk.c (v := .pointer (some ⟨b165, o166 + 3, none⟩)) rfl (by kernel_rfl) (wantT (g := 13) (d := 163) rfl rfl rfl) rfl (by kernel_rfl) rfl ?_
          refine dk.gB (v := .slice a_x141 (rs_x141.length) k_x141) b165 rfl (by kernel_rfl) (wantT (g := 13) (d := 163) rfl rfl rfl) rfl (fun _ q_ => (ld1 (P := Tryd.prog) (t := 29) (p := o166 + 3) (v := .slice a_x141 (rs_x141.length) k_x141) (by kernel_rfl) (by kernel_rfl) (q_ _ hb167) (hc168 3 _ rfl))) rfl ?_
          refine dk.c (v := .int .i64 (z)) rfl (by kernel_rfl) (wantT (g := 13) (d := 163) rfl rfl rfl) rfl rfl rfl ?_
          have i178 : (0 : Int) ≤ (z : Int) := by omega
          obtain ⟨x179, hx_x179⟩ : ∃ x, (rs_x141)[((z : Int)).toNat]? = some x := ⟨_, List.getElem?_eq_getElem (by omega)⟩
          obtain ⟨y_x179, hy_x179, L_x179, M_x179⟩ := D_x141.at hx_x179
          obtain ⟨v1_x179, v2_x179⟩ := x179
          obtain ⟨a1_x179, c1_x179, rfl⟩ := (show FRow encLab _ v1_x179 y_x179.1 from L_x179).slice
          obtain ⟨a2_x179, c2_x179, rfl⟩ := (show FRow encSmp _ v2_x179 y_x179.2 from M_x179).slice
          obtain ⟨b172, o173, cs_b172, ow_b172, ci_b172, ie177, hb174, hc175, hr176⟩ := IsRow.at (P := Tryd.prog) (t := 29) (e := 43) (k := .i64) (by kernel_rfl) (by kernel_rfl) R_x141.is i178 hx_x179
          refine dk.c (v := .pointer (some ⟨b172, o173, none⟩)) rfl (by kernel_rfl) (wantT (g := 13) (d := 163) rfl rfl rfl) rfl ie177 rfl ?_
          refine dk.c (v := .pointer (some ⟨b172, o173, none⟩)) rfl (by kernel_rfl) (wantT (g := 13) (d := 163) rfl rfl rfl) rfl (by kernel_rfl) rfl ?_
          refine dk.gB (v := .slice a1_x179 (y_x179.1.length) c1_x179) b172 rfl (by kernel_rfl) (wantT (g := 13) (d := 163) rfl rfl rfl) rfl (fun _ q_ => (ld1 (P := Tryd.prog) (t := 40) (p := o173 + 0) (v := .slice a1_x179 (y_x179.1.length) c1_x179) (by kernel_rfl) (by kernel_rfl) (q_ _ hb174) (hc175 0 _ rfl))) rfl ?_
          refine dk.c (v := .slice a_u (ro_u.length) c_u) rfl (by kernel_rfl) (wantT (g := 13) (d := 163) rfl rfl rfl) rfl rfl rfl ?_
          refine dk.c (v := .int .i64 (u)) rfl (by kernel_rfl) (wantT (g := 13) (d := 163) rfl rfl rfl) rfl rfl rfl ?_
          have i186 : (0 : Int) ≤ (u : Int) := by omega
          obtain ⟨b180, o181, cs_b180, ow_b180, ci_b180, ie185, hb182, hc183, hr184⟩ := IsRow.at (P := Tryd.prog) (t := 38) (e := 45) (k := .i64) (by kernel_rfl) (by kernel_rfl) R_u.is i186 hx_x128
          refine dk.c (v := .pointer (some ⟨b180, o181, none⟩)) rfl (by kernel_rfl) (wantT (g := 13) (d := 163) rfl rfl rfl) rfl ie185 rfl ?_
          refine dk.c (v := .pointer (some ⟨b180, o181 + 1, none⟩)) rfl (by kernel_rfl) (wantT (g := 13) (d := 163) rfl rfl rfl) rfl (by kernel_rfl) rfl ?_
          refine dk.c (v := .pointer (some ⟨b180, o181 + 1, none⟩)) rfl (by kernel_rfl) (wantT (g := 13) (d := 163) rfl rfl rfl) rfl (by kernel_rfl) rfl ?_
          refine dk.gB (v := .slice a1_x128 (y_x128.2.1.length) c1_x128) b180 rfl (by kernel_rfl) (wantT (g := 13) (d := 163) rfl rfl rfl) rfl (fun _ q_ => (ld1 (P := Tryd.prog) (t := 40) (p := o181 + 1) (v := .slice a1_x128 (y_x128.2.1.length) c1_x128) (by kernel_rfl) (by kernel_rfl) (q_ _ hb182) (hc183 1 _ rfl))) rfl ?_
          refine dk.t (v := .bool (decide (y_x179.1 = y_x128.2.1))) rfl (by kernel_rfl) (wantT (g := 13) (d := 163) rfl rfl rfl) (CallsF.fn rfl (by kernel_rfl) rfl rfl) (fun hf => l27_spec _ _ L_x179.is L_x128.is (by have := (hsO.2 _ (List.mem_of_getElem? hy_x179)).1; omega)) hf rfl ?_
          intro n187 hn2 hf
          have hn := Nat.le_trans hn hn2
          refine dk.c (v := .bool (decide (y_x179.1 = y_x128.2.1))) rfl (by kernel_rfl) (wantT (g := 1) (d := 151) rfl rfl rfl) rfl rfl rfl ?_
          refine dk.c (v := .bool (decide (y_x179.1 = y_x128.2.1))) rfl (by kernel_rfl) (wantT (g := 1) (d := 151) rfl rfl rfl) rfl rfl rfl ?_
          by_cases c_sm : y_x179.1 = y_x128.2.1
          ·rw [decide_eq_true c_sm]
           refine dk.c (v := .slice a_o (os.length) cp_o) rfl (by kernel_rfl) (wantT (g := 31) (d := 181) rfl rfl rfl) rfl rfl rfl ?_
           refine dk.c (v := .int .i64 (wi)) rfl (by kernel_rfl) (wantT (g := 31) (d := 181) rfl rfl rfl) rfl rfl rfl ?_
           have i194 : (0 : Int) ≤ (wi : Int) := by omega
           obtain ⟨b188, o189, cs_b188, ow_b188, ci_b188, ie193, hb190, hc191, hr192⟩ := IsRow.at (P := Tryd.prog) (t := 22) (e := 31) (k := .i64) (by kernel_rfl) (by kernel_rfl) R_o.is i194 hx_x141
           refine dk.c (v := .pointer (some ⟨b188, o189, none⟩)) rfl (by kernel_rfl) (wantT (g := 31) (d := 181) rfl rfl rfl) rfl ie193 rfl ?_
           refine dk.c (v := .pointer (some ⟨b188, o189 + 3, none⟩)) rfl (by kernel_rfl) (wantT (g := 31) (d := 181) rfl rfl rfl) rfl (by kernel_rfl) rfl ?_
           refine dk.gB (v := .slice a_x141 (rs_x141.length) k_x141) b188 rfl (by kernel_rfl) (wantT (g := 31) (d := 181) rfl rfl rfl) rfl (fun _ q_ => (ld1 (P := Tryd.prog) (t := 29) (p := o189 + 3) (v := .slice a_x141 (rs_x141.length) k_x141) (by kernel_rfl) (by kernel_rfl) (q_ _ hb190) (hc191 3 _ rfl))) rfl ?_
           refine dk.c (v := .int .i64 (z)) rfl (by kernel_rfl) (wantT (g := 31) (d := 181) rfl rfl rfl) rfl rfl rfl ?_
           have i201 : (0 : Int) ≤ (z : Int) := by omega
           obtain ⟨b195, o196, cs_b195, ow_b195, ci_b195, ie200, hb197, hc198, hr199⟩ := IsRow.at (P := Tryd.prog) (t := 29) (e := 43) (k := .i64) (by kernel_rfl) (by kernel_rfl) R_x141.is i201 hx_x179
           refine dk.c (v := .pointer (some ⟨b195, o196, none⟩)) rfl (by kernel_rfl) (wantT (g := 31) (d := 181) rfl rfl rfl) rfl ie200 rfl ?_
           refine dk.c (v := .pointer (some ⟨b195, o196 + 1, none⟩)) rfl (by kernel_rfl) (wantT (g := 31) (d := 181) rfl rfl rfl) rfl (by kernel_rfl) rfl ?_
           refine dk.gB (v := .slice a2_x179 (y_x179.2.length) c2_x179) b195 rfl (by kernel_rfl) (wantT (g := 31) (d := 181) rfl rfl rfl) rfl (fun _ q_ => (ld1 (P := Tryd.prog) (t := 41) (p := o196 + 1) (v := .slice a2_x179 (y_x179.2.length) c2_x179) (by kernel_rfl) (by kernel_rfl) (q_ _ hb197) (hc198 1 _ rfl))) rfl ?_
           refine dk.c (v := .slice a_u (ro_u.length) c_u) rfl (by kernel_rfl) (wantT (g := 31) (d := 181) rfl rfl rfl) rfl rfl rfl ?_
           refine dk.c (v := .int .i64 (u)) rfl (by kernel_rfl) (wantT (g := 31) (d := 181) rfl rfl rfl) rfl rfl rfl ?_
           have i208 : (0 : Int) ≤ (u : Int) := by omega
           obtain ⟨b202, o203, cs_b202, ow_b202, ci_b202, ie207, hb204, hc205, hr206⟩ := IsRow.at (P := Tryd.prog) (t := 38) (e := 45) (k := .i64) (by kernel_rfl) (by kernel_rfl) R_u.is i208 hx_x128
           refine dk.c (v := .pointer (some ⟨b202, o203, none⟩)) rfl (by kernel_rfl) (wantT (g := 31) (d := 181) rfl rfl rfl) rfl ie207 rfl ?_
           refine dk.c (v := .pointer (some ⟨b202, o203 + 1, none⟩)) rfl (by kernel_rfl) (wantT (g := 31) (d := 181) rfl rfl rfl) rfl (by kernel_rfl) rfl ?_
           refine dk.c (v := .pointer (some ⟨b202, o203 + 2, none⟩)) rfl (by kernel_rfl) (wantT (g := 31) (d := 181) rfl rfl rfl) rfl (by kernel_rfl) rfl ?_
           refine dk.gB (v := .slice a2_x128 (y_x128.2.2.length) c2_x128) b202 rfl (by kernel_rfl) (wantT (g := 31) (d := 181) rfl rfl rfl) rfl (fun _ q_ => (ld1 (P := Tryd.prog) (t := 41) (p := o203 + 2) (v := .slice a2_x128 (y_x128.2.2.length) c2_x128) (by kernel_rfl) (by kernel_rfl) (q_ _ hb204) (hc205 2 _ rfl))) rfl ?_
           refine dk.c (v := .int .i64 (v)) rfl (by kernel_rfl) (wantT (g := 31) (d := 181) rfl rfl rfl) rfl rfl rfl ?_
           have i215 : (0 : Int) ≤ (v : Int) := by omega
           obtain ⟨b209, o210, cs_b209, ow_b209, ci_b209, ie214, hb211, hc212, hr213⟩ := IsRow.at (P := Tryd.prog) (t := 41) (e := 53) (k := .i64) (by kernel_rfl) (by kernel_rfl) M_x128.is i215 hx_x138
           refine dk.c (v := .pointer (some ⟨b209, o210, none⟩)) rfl (by kernel_rfl) (wantT (g := 31) (d := 181) rfl rfl rfl) rfl ie214 rfl ?_
           refine dk.gB (v := .agg #[.int .i64 (x138.1), .int .u64 (x138.2)]) b209 rfl (by kernel_rfl) (wantT (g := 31) (d := 181) rfl rfl rfl) rfl (fun _ q_ => (ldR (P := Tryd.prog) (t := 53) (k := 2) (xs := [.int .i64 (x138.1), .int .u64 (x138.2)]) (by kernel_rfl) (by kernel_rfl) (rowE_keep q_ hr213))) rfl ?_
           refine dk.t (v := .bool (decide (x138 ∈ y_x179.2))) rfl (by kernel_rfl) (wantT (g := 31) (d := 181) rfl rfl rfl) (CallsF.fn rfl (by kernel_rfl) rfl rfl) (fun hf => has_spec _ x138 M_x179.is (by have := (hsO.2 _ (List.mem_of_getElem? hy_x179)).2.1; omega)) hf rfl ?_
           intro n216 hn2 hf
           have hn := Nat.le_trans hn hn2
           refine dk.c (v := .bool (decide (x138 ∈ y_x179.2))) rfl (by kernel_rfl) (wantT (g := 1) (d := 151) rfl rfl rfl) rfl rfl rfl ?_
           refine dk.c (v := .bool (decide (x138 ∈ y_x179.2))) rfl (by kernel_rfl) rfl rfl rfl rfl ?_
           refine dk.c (v := .bool (decide (x138 ∈ y_x179.2))) rfl (by kernel_rfl) rfl rfl rfl rfl ?_
           refine dk.e (AWp.rowV (l := _) pok ?_)
           refine sq.c (v := .int .i64 (z)) rfl rfl rfl rfl ?_
           refine sq.c (v := .int .i64 (z + 1)) rfl rfl (okI (wrap_i64 (by omega) (by omega))) rfl ?_
           refine sq.c (v := .int .i64 (z + 1)) rfl rfl rfl rfl ?_
           refine sq.e ?_
           have hfe3 : (decide (x138 ∈ y_x179.2)) = false → ∀ s ∈ y_x141.ser.take (z + 1).toNat, ¬ (y_x141.ten = y_x128.1 ∧ s.1 = y_x128.2.1 ∧ x138 ∈ s.2) := fun q s hs9 => by
            rw [take_snoc hz0 hy_x179] at hs9
            rcases List.mem_append.1 hs9 with hs9 | hs9
            ·exact hfe cfe s hs9
            ·rw [List.mem_singleton] at hs9
             subst hs9
             rintro ⟨e1, e2, e3⟩
             exact (of_decide_eq_false q) e3
           refine ⟨_, _, rfl, (by omega), z + 1, (decide (x138 ∈ y_x179.2)), rfl, rfl, hn, hf, (by omega), (by omega), (hfe3), getV [undef, undef, undef, undef, undef, undef, undef, undef, undef, undef, undef, undef, undef, undef, undef, undef, undef, undef, undef, undef, undef, undef, undef, undef, undef, undef, undef, undef, undef, undef, undef, undef, undef, undef, undef, undef, undef, undef, undef, undef, undef, undef, undef, undef, undef, undef, undef, undef, undef, undef, undef, undef, undef, undef, undef, undef, undef, undef, undef, undef, undef, undef, undef, undef, undef, undef, undef, undef, undef, undef, undef, undef, undef, undef, undef, undef, undef, undef, undef, undef, undef, undef, undef, undef, undef, undef, undef, undef, undef, undef, undef, undef, undef, undef, undef, undef, undef, undef, undef, undef, undef, undef, undef, undef, undef, undef, undef, undef, undef, undef, undef, undef, undef, undef, undef, undef, undef, undef, undef, undef, undef, undef, undef, undef, undef, undef, undef, undef, undef, undef, undef, undef, undef, undef, undef, undef, undef, undef, undef, undef, .int .i64 (z), .slice a_o (os.length) cp_o, .int .i64 (wi), .pointer (some ⟨b144, o145, none⟩), .pointer (some ⟨b144, o145 + 3, none⟩), .slice a_x141 (rs_x141.length) k_x141, .int .i64 (((rs_x141.length : Nat) : Int)), .bool true, .int .i64 (z), .int .i64 (z + 1), .bool false, .bool false, .slice a_o (os.length) cp_o, .int .i64 (wi), .pointer (some ⟨b151, o152, none⟩), .pointer (some ⟨b151, o152, none⟩), .string (y_x141.ten), .slice a_u (ro_u.length) c_u, .int .i64 (u), .pointer (some ⟨b158, o159, none⟩), .pointer (some ⟨b158, o159, none⟩), .string (y_x128.1), .bool true, .bool true, .slice a_o (os.length) cp_o, .int .i64 (wi), .pointer (some ⟨b165, o166, none⟩), .pointer (some ⟨b165, o166 + 3, none⟩), .slice a_x141 (rs_x141.length) k_x141, .int .i64 (z), .pointer (some ⟨b172, o173, none⟩), .pointer (some ⟨b172, o173, none⟩), .slice a1_x179 (y_x179.1.length) c1_x179, .slice a_u (ro_u.length) c_u, .int .i64 (u), .pointer (some ⟨b180, o181, none⟩), .pointer (some ⟨b180, o181 + 1, none⟩), .pointer (some ⟨b180, o181 + 1, none⟩), .slice a1_x128 (y_x128.2.1.length) c1_x128, .bool true, .bool true, .bool true, .slice a_o (os.length) cp_o, .int .i64 (wi), .pointer (some ⟨b188, o189, none⟩), .pointer (some ⟨b188, o189 + 3, none⟩), .slice a_x141 (rs_x141.length) k_x141, .int .i64 (z), .pointer (some ⟨b195, o196, none⟩), .pointer (some ⟨b195, o196 + 1, none⟩), .slice a2_x179 (y_x179.2.length) c2_x179, .slice a_u (ro_u.length) c_u, .int .i64 (u), .pointer (some ⟨b202, o203, none⟩), .pointer (some ⟨b202, o203 + 1, none⟩), .pointer (some ⟨b202, o203 + 2, none⟩), .slice a2_x128 (y_x128.2.2.length) c2_x128, .int .i64 (v), .pointer (some ⟨b209, o210, none⟩), .agg #[.int .i64 (x138.1), .int .u64 (x138.2)], .bool (decide (x138 ∈ y_x179.2)), .bool (decide (x138 ∈ y_x179.2)), .bool (decide (x138 ∈ y_x179.2))], rfl⟩
          ·rw [decide_eq_false c_sm]
           refine dk.s rfl (wantF (g := 31) (d := 181) rfl rfl rfl) rfl ?_
           refine dk.s rfl (wantF (g := 31) (d := 181) rfl rfl rfl) rfl ?_
           refine dk.s rfl (wantF (g := 31) (d := 181) rfl rfl rfl) rfl ?_
           refine dk.s rfl (wantF (g := 31) (d := 181) rfl rfl rfl) rfl ?_
           refine dk.s rfl (wantF (g := 31) (d := 181) rfl rfl rfl) rfl ?_
           refine dk.s rfl (wantF (g := 31) (d := 181) rfl rfl rfl) rfl ?_
           refine dk.s rfl (wantF (g := 31) (d := 181) rfl rfl rfl) rfl ?_
           refine dk.s rfl (wantF (g := 31) (d := 181) rfl rfl rfl) rfl ?_
           refine dk.s rfl (wantF (g := 31) (d := 181) rfl rfl rfl) rfl ?_
           refine dk.s rfl (wantF (g := 31) (d := 181) rfl rfl rfl) rfl ?_
           refine dk.s rfl (wantF (g := 31) (d := 181) rfl rfl rfl) rfl ?_
           refine dk.s rfl (wantF (g := 31) (d := 181) rfl rfl rfl) rfl ?_
           refine dk.s rfl (wantF (g := 31) (d := 181) rfl rfl rfl) rfl ?_
           refine dk.s rfl (wantF (g := 31) (d := 181) rfl rfl rfl) rfl ?_
           refine dk.s rfl (wantF (g := 31) (d := 181) rfl rfl rfl) rfl ?_
           refine dk.s rfl (wantF (g := 31) (d := 181) rfl rfl rfl) rfl ?_
           refine dk.s rfl (wantF (g := 31) (d := 181) rfl rfl rfl) rfl ?_
           refine dk.s rfl (wantF (g := 31) (d := 181) rfl rfl rfl) rfl ?_
           refine dk.s rfl (wantF (g := 31) (d := 181) rfl rfl rfl) rfl ?_
           refine dk.c (v := .bool false) rfl (by kernel_rfl) (wantT (g := 1) (d := 151) rfl rfl rfl) rfl rfl rfl ?_
           refine dk.c (v := .bool false) rfl (by kernel_rfl) rfl rfl rfl rfl ?_
           refine dk.c (v := .bool false) rfl (by kernel_rfl) rfl rfl rfl rfl ?_
           refine dk.e (AWp.rowV (l := _) pok ?_)
           refine sq.c (v := .int .i64 (z)) rfl rfl rfl rfl ?_
           refine sq.c (v := .int .i64 (z + 1)) rfl rfl (okI (wrap_i64 (by omega) (by omega))) rfl ?_
           refine sq.c (v := .int .i64 (z + 1)) rfl rfl rfl rfl ?_
           refine sq.e ?_
           have hfe3 : false = false → ∀ s ∈ y_x141.ser.take (z + 1).toNat, ¬ (y_x141.ten = y_x128.1 ∧ s.1 = y_x128.2.1 ∧ x138 ∈ s.2) := fun q s hs9 => by
            rw [take_snoc hz0 hy_x179] at hs9
            rcases List.mem_append.1 hs9 with hs9 | hs9
            ·exact hfe cfe s hs9
            ·rw [List.mem_singleton] at hs9
             subst hs9
             rintro ⟨e1, e2, e3⟩
             exact c_sm e2
           refine ⟨_, _, rfl, (by omega), z + 1, false, rfl, rfl, hn, hf, (by omega), (by omega), (hfe3), getV [undef, undef, undef, undef, undef, undef, undef, undef, undef, undef, undef, undef, undef, undef, undef, undef, undef, undef, undef, undef, undef, undef, undef, undef, undef, undef, undef, undef, undef, undef, undef, undef, undef, undef, undef, undef, undef, undef, undef, undef, undef, undef, undef, undef, undef, undef, undef, undef, undef, undef, undef, undef, undef, undef, undef, undef, undef, undef, undef, undef, undef, undef, undef, undef, undef, undef, undef, undef, undef, undef, undef, undef, undef, undef, undef, undef, undef, undef, undef, undef, undef, undef, undef, undef, undef, undef, undef, undef, undef, undef, undef, undef, undef, undef, undef, undef, undef, undef, undef, undef, undef, undef, undef, undef, undef, undef, undef, undef, undef, undef, undef, undef, undef, undef, undef, undef, undef, undef, undef, undef, undef, undef, undef, undef, undef, undef, undef, undef, undef, undef, undef, undef, undef, undef, undef, undef, undef, undef, undef, undef, .int .i64 (z), .slice a_o (os.length) cp_o, .int .i64 (wi), .pointer (some ⟨b144, o145, none⟩), .pointer (some ⟨b144, o145 + 3, none⟩), .slice a_x141 (rs_x141.length) k_x141, .int .i64 (((rs_x141.length : Nat) : Int)), .bool true, .int .i64 (z), .int .i64 (z + 1), .bool false, .bool false, .slice a_o (os.length) cp_o, .int .i64 (wi), .pointer (some ⟨b151, o152, none⟩), .pointer (some ⟨b151, o152, none⟩), .string (y_x141.ten), .slice a_u (ro_u.length) c_u, .int .i64 (u), .pointer (some ⟨b158, o159, none⟩), .pointer (some ⟨b158, o159, none⟩), .string (y_x128.1), .bool true, .bool true, .slice a_o (os.length) cp_o, .int .i64 (wi), .pointer (some ⟨b165, o166, none⟩), .pointer (some ⟨b165, o166 + 3, none⟩), .slice a_x141 (rs_x141.length) k_x141, .int .i64 (z), .pointer (some ⟨b172, o173, none⟩), .pointer (some ⟨b172, o173, none⟩), .slice a1_x179 (y_x179.1.length) c1_x179, .slice a_u (ro_u.length) c_u, .int .i64 (u), .pointer (some ⟨b180, o181, none⟩), .pointer (some ⟨b180, o181 + 1, none⟩), .pointer (some ⟨b180, o181 + 1, none⟩), .slice a1_x128 (y_x128.2.1.length) c1_x128, .bool false, .bool false, .bool false, undef, undef, undef, undef, undef, undef, undef, undef, undef, undef, undef, undef, undef, undef, undef, undef, undef, undef, undef, .bool false, .bool false], rfl⟩
         ·rw [decide_eq_false c37_12]
          refine dk.s rfl (wantF (g := 13) (d := 163) rfl rfl rfl) rfl ?_
          refine dk.s rfl (wantF (g := 13) (d := 163) rfl rfl rfl) rfl ?_
          refine dk.s rfl (wantF (g := 13) (d := 163) rfl rfl rfl) rfl ?_
          refine dk.s rfl (wantF (g := 13) (d := 163) rfl rfl rfl) rfl ?_
          refine dk.s rfl (wantF (g := 13) (d := 163) rfl rfl rfl) rfl ?_
          refine dk.s rfl (wantF (g := 13) (d := 163) rfl rfl rfl) rfl ?_
          refine dk.s rfl (wantF (g := 13) (d := 163) rfl rfl rfl) rfl ?_
          refine dk.s rfl (wantF (g := 13) (d := 163) rfl rfl rfl) rfl ?_
          refine dk.s rfl (wantF (g := 13) (d := 163) rfl rfl rfl) rfl ?_
          refine dk.s rfl (wantF (g := 13) (d := 163) rfl rfl rfl) rfl ?_
          refine dk.s rfl (wantF (g := 13) (d := 163) rfl rfl rfl) rfl ?_
          refine dk.s rfl (wantF (g := 13) (d := 163) rfl rfl rfl) rfl ?_
          refine dk.s rfl (wantF (g := 13) (d := 163) rfl rfl rfl) rfl ?_
          refine dk.s rfl (wantF (g := 13) (d := 163) rfl rfl rfl) rfl ?_
          refine dk.s rfl (wantF (g := 13) (d := 163) rfl rfl rfl) rfl ?_
          refine dk.s rfl (wantF (g := 13) (d := 163) rfl rfl rfl) rfl ?_
          refine dk.c (v := .bool false) rfl (by kernel_rfl) (wantT (g := 1) (d := 151) rfl rfl rfl) rfl rfl rfl ?_
          refine dk.c (v := .bool false) rfl (by kernel_rfl) (wantT (g := 1) (d := 151) rfl rfl rfl) rfl rfl rfl ?_
          refine dk.s rfl (wantF (g := 31) (d := 181) rfl rfl rfl) rfl ?_
          refine dk.s rfl (wantF (g := 31) (d := 181) rfl rfl rfl) rfl ?_
          refine dk.s rfl (wantF (g := 31) (d := 181) rfl rfl rfl) rfl ?_
          refine dk.s rfl (wantF (g := 31) (d := 181) rfl rfl rfl) rfl ?_
          refine dk.s rfl (wantF (g := 31) (d := 181) rfl rfl rfl) rfl ?_
          refine dk.s rfl (wantF (g := 31) (d := 181) rfl rfl rfl) rfl ?_
          refine dk.s rfl (wantF (g := 31) (d := 181) rfl rfl rfl) rfl ?_
          refine dk.s rfl (wantF (g := 31) (d := 181) rfl rfl rfl) rfl ?_
          refine dk.s rfl (wantF (g := 31) (d := 181) rfl rfl rfl) rfl ?_
          refine dk.s rfl (wantF (g := 31) (d := 181) rfl rfl rfl) rfl ?_
          refine dk.s rfl (wantF (g := 31) (d := 181) rfl rfl rfl) rfl ?_
          refine dk.s rfl (wantF (g := 31) (d := 181) rfl rfl rfl) rfl ?_
          refine dk.s rfl (wantF (g := 31) (d := 181) rfl rfl rfl) rfl ?_
          refine dk.s rfl (wantF (g := 31) (d := 181) rfl rfl rfl) rfl ?_
          refine dk.s rfl (wantF (g := 31) (d := 181) rfl rfl rfl) rfl ?_
          refine dk.s rfl (wantF (g := 31) (d := 181) rfl rfl rfl) rfl ?_
          refine dk.s rfl (wantF (g := 31) (d := 181) rfl rfl rfl) rfl ?_
          refine dk.s rfl (wantF (g := 31) (d := 181) rfl rfl rfl) rfl ?_
          refine dk.s rfl (wantF (g := 31) (d := 181) rfl rfl rfl) rfl ?_
          refine dk.c (v := .bool false) rfl (by kernel_rfl) (wantT (g := 1) (d := 151) rfl rfl rfl) rfl rfl rfl ?_
          refine dk.c (v := .bool false) rfl (by kernel_rfl) rfl rfl rfl rfl ?_
          refine dk.c (v := .bool false) rfl (by kernel_rfl) rfl rfl rfl rfl ?_
          refine dk.e (AWp.rowV (l := _) pok ?_)
          refine sq.c (v := .int .i64 (z)) rfl rfl rfl rfl ?_
          refine sq.c (v := .int .i64 (z + 1)) rfl rfl (okI (wrap_i64 (by omega) (by omega))) rfl ?_
          refine sq.c (v := .int .i64 (z + 1)) rfl rfl rfl rfl ?_
          refine sq.e ?_
          obtain ⟨x217, hx_x217⟩ : ∃ x, (rs_x141)[(z : Int).toNat]? = some x := ⟨_, List.getElem?_eq_getElem (by omega)⟩
          obtain ⟨y_x217, hy_x217, L_x217, M_x217⟩ := D_x141.at hx_x217
          obtain ⟨v1_x217, v2_x217⟩ := x217
          obtain ⟨a1_x217, c1_x217, rfl⟩ := (show FRow encLab _ v1_x217 y_x217.1 from L_x217).slice
          obtain ⟨a2_x217, c2_x217, rfl⟩ := (show FRow encSmp _ v2_x217 y_x217.2 from M_x217).slice
          have hfe3 : false = false → ∀ s ∈ y_x141.ser.take (z + 1).toNat, ¬ (y_x141.ten = y_x128.1 ∧ s.1 = y_x128.2.1 ∧ x138 ∈ s.2) := fun q s hs9 => by
           rw [take_snoc hz0 hy_x217] at hs9
           rcases List.mem_append.1 hs9 with hs9 | hs9
           ·exact hfe cfe s hs9
           ·rw [List.mem_singleton] at hs9
            subst hs9
            rintro ⟨e1, e2, e3⟩
            exact c37_12 e1
          refine ⟨_, _, rfl, (by omega), z + 1, false, rfl, rfl, hn, hf, (by omega), (by omega), (hfe3), getV [undef, undef, undef, undef, undef, undef, undef, undef, undef, undef, undef, undef, undef, undef, undef, undef, undef, undef, undef, undef, undef, undef, undef, undef, undef, undef, undef, undef, undef, undef, undef, undef, undef, undef, undef, undef, undef, undef, undef, undef, undef, undef, undef, undef, undef, undef, undef, undef, undef, undef, undef, undef, undef, undef, undef, undef, undef, undef, undef, undef, undef, undef, undef, undef, undef, undef, undef, undef, undef, undef, undef, undef, undef, undef, undef, undef, undef, undef, undef, undef, undef, undef, undef, undef, undef, undef, undef, undef, undef, undef, undef, undef, undef, undef, undef, undef, undef, undef, undef, undef, undef, undef, undef, undef, undef, undef, undef, undef, undef, undef, undef, undef, undef, undef, undef, undef, undef, undef, undef, undef, undef, undef, undef, undef, undef, undef, undef, undef, undef, undef, undef, undef, undef, undef, undef, undef, undef, undef, undef, undef, .int .i64 (z), .slice a_o (os.length) cp_o, .int .i64 (wi), .pointer (some ⟨b144, o145, none⟩), .pointer (some ⟨b144, o145 + 3, none⟩), .slice a_x141 (rs_x141.length) k_x141, .int .i64 (((rs_x141.length : Nat) : Int)), .bool true, .int .i64 (z), .int .i64 (z + 1), .bool false, .bool false, .slice a_o (os.length) cp_o, .int .i64 (wi), .pointer (some ⟨b151, o152, none⟩), .pointer (some ⟨b151, o152, none⟩), .string (y_x141.ten), .slice a_u (ro_u.length) c_u, .int .i64 (u), .pointer (some ⟨b158, o159, none⟩), .pointer (some ⟨b158, o159, none⟩), .string (y_x128.1), .bool false, .bool false, undef, undef, undef, undef, undef, undef, undef, undef, undef, undef, undef, undef, undef, undef, undef, undef, .bool false, .bool false, undef, undef, undef, undef, undef, undef, undef, undef, undef, undef, undef, undef, undef, undef, undef, undef, undef, undef, undef, .bool false, .bool false], rfl⟩
       ·rw [decide_eq_false c35_7]
        refine AWp.condF rfl rfl ?_
        refine AWp.exit ?_
        refine AWp.rowV (l := _) pok ?_
        refine sq.c (v := .int .i64 (wi)) rfl rfl rfl rfl ?_
        refine sq.c (v := .int .i64 (wi + 1)) rfl rfl (okI (wrap_i64 (by omega) (by omega))) rfl ?_
        refine sq.c (v := .int .i64 (wi + 1)) rfl rfl rfl rfl ?_
        refine sq.e ?_
        have hfd3 : fe = false → ∀ b ∈ tk.take (wi + 1).toNat, ∀ s ∈ b.ser, ¬ (b.ten = y_x128.1 ∧ s.1 = y_x128.2.1 ∧ x138 ∈ s.2) := fun q b hb => by
         rw [take_snoc hw0 hy_x141] at hb
         rcases List.mem_append.1 hb with hb | hb
         ·exact hfd cfd b hb
         ·rw [List.mem_singleton] at hb
          subst hb
          exact fun s hs9 => hfe q s (by rw [show z.toNat = b.ser.length by omega, List.take_length]; exact hs9)
        refine ⟨_, _, rfl, (by omega), wi + 1, fe, rfl, rfl, hn, hf, (by omega), (by omega), (hfd3), getV [undef, undef, undef, undef, undef, undef, undef, undef, undef, undef, undef, undef, undef, undef, undef, undef, undef, .int .i64 (z), undef, undef, undef, undef, undef, undef, undef, undef, undef, undef, undef, undef, undef, undef, undef, undef, undef, undef, undef, undef, undef, undef, undef, undef, undef, undef, undef, undef, undef, undef, undef, undef, undef, undef, undef, undef, undef, undef, undef, undef, undef, undef, undef, undef, undef, undef, undef, undef, undef, undef, undef, undef, undef, undef, undef, undef, undef, undef, undef, undef, undef, undef, undef, undef, undef, undef, undef, undef, undef, undef, undef, undef, undef, undef, undef, undef, undef, undef, undef, undef, undef, undef, undef, undef, undef, undef, undef, undef, undef, undef, undef, undef, undef, undef, undef, undef, undef, undef, undef, undef, undef, undef, undef, undef, undef, undef, undef, undef, undef, undef, undef, undef, .int .i64 (wi), .slice a_o (os.length) cp_o, .int .i64 (((os.length : Nat) : Int)), .bool true, .bool true, .bool false, .bool true, .bool true, .int .i64 (wi), .int .i64 (wi + 1), .int .i64 (z), .slice a_o (os.length) cp_o, .int .i64 (wi), .pointer (some ⟨b144, o145, none⟩), .pointer (some ⟨b144, o145 + 3, none⟩), .slice a_x141 (rs_x141.length) k_x141, .int .i64 (((rs_x141.length : Nat) : Int)), .bool false, (y142 148), (y142 149), (y142 150), (y142 151), (y142 152), (y142 153), (y142 154), (y142 155), (y142 156), (y142 157), (y142 158), (y142 159), (y142 160), (y142 161), (y142 162), (y142 163), (y142 164), (y142 165), (y142 166), (y142 167), (y142 168), (y142 169), (y142 170), (y142 171), (y142 172), (y142 173), (y142 174), (y142 175), (y142 176), (y142 177), (y142 178), (y142 179), (y142 180), (y142 181), (y142 182), (y142 183), (y142 184), (y142 185), (y142 186), (y142 187), (y142 188), (y142 189), (y142 190), (y142 191), (y142 192), (y142 193), (y142 194), (y142 195), (y142 196), (y142 197), (y142 198), (y142 199), (y142 200), (y142 201), (y142 202)], rfl⟩
     ·rw [decide_eq_false c32_3]
      refine sq.s (wantF (g := 4) (d := 134) rfl rfl rfl) rfl ?_
      refine sq.s (wantF (g := 4) (d := 134) rfl rfl rfl) rfl ?_
      refine sq.c (v := .bool false) rfl rfl rfl rfl ?_
      refine sq.e ?_
      refine AWp.condF rfl rfl ?_
      refine AWp.exit ?_
      refine AWp.seq (AWp.rowV (l := _) pok ?_)
      refine sq.c (v := .bool (fd)) rfl rfl rfl rfl ?_
      rcases Bool.eq_false_or_eq_true (fd) with cfd | cfd
      ·rw [cfd]
       refine sq.c (v := .bool false) rfl rfl rfl rfl ?_
       refine sq.e ?_
       refine AWp.condF rfl rfl ?_
       refine AWp.skip (AWp.rowV (l := _) pok ?_)
       refine sq.c (v := .int .i64 (v)) rfl rfl rfl rfl ?_
       refine sq.c (v := .int .i64 (v + 1)) rfl rfl (okI (wrap_i64 (by omega) (by omega))) rfl ?_
       refine sq.c (v := .int .i64 (v + 1)) rfl rfl rfl rfl ?_
       refine sq.e ?_
       refine ⟨_, _, rfl, (by omega), v + 1, rfl, rfl, hn, hf, (by omega), (by omega), getV [undef, undef, (y129 2), undef, undef, undef, undef, undef, undef, undef, undef, undef, undef, undef, undef, .bool true, .int .i64 (wi), (y139 17), undef, undef, undef, undef, undef, undef, undef, undef, undef, undef, undef, undef, undef, undef, undef, undef, undef, undef, undef, undef, undef, undef, undef, undef, undef, undef, undef, undef, undef, undef, undef, undef, undef, undef, undef, undef, undef, undef, undef, undef, undef, undef, undef, undef, undef, undef, undef, undef, undef, undef, undef, undef, undef, undef, undef, undef, undef, undef, undef, undef, undef, undef, undef, undef, undef, undef, undef, undef, undef, undef, undef, undef, undef, undef, undef, undef, undef, undef, undef, undef, undef, undef, undef, undef, undef, undef, undef, undef, undef, undef, undef, undef, undef, undef, undef, undef, undef, undef, undef, undef, undef, .int .i64 (v), .slice a_u (ro_u.length) c_u, .int .i64 (u), .pointer (some ⟨b131, o132, none⟩), .pointer (some ⟨b131, o132 + 1, none⟩), .pointer (some ⟨b131, o132 + 2, none⟩), .slice a2_x128 (y_x128.2.2.length) c2_x128, .int .i64 (((y_x128.2.2.length : Nat) : Int)), .bool true, .int .i64 (v), .int .i64 (v + 1), .int .i64 (wi), .slice a_o (os.length) cp_o, .int .i64 (((os.length : Nat) : Int)), .bool false, .bool false, undef, undef, .bool false, (y139 138), (y139 139), (y139 140), (y139 141), (y139 142), (y139 143), (y139 144), (y139 145), (y139 146), (y139 147), (y139 148), (y139 149), (y139 150), (y139 151), (y139 152), (y139 153), (y139 154), (y139 155), (y139 156), (y139 157), (y139 158), (y139 159), (y139 160), (y139 161), (y139 162), (y139 163), (y139 164), (y139 165), (y139 166), (y139 167), (y139 168), (y139 169), (y139 170), (y139 171), (y139 172), (y139 173), (y139 174), (y139 175), (y139 176), (y139 177), (y139 178), (y139 179), (y139 180), (y139 181), (y139 182), (y139 183), (y139 184), (y139 185), (y139 186), (y139 187), (y139 188), (y139 189), (y139 190), (y139 191), (y139 192), (y139 193), (y139 194), (y139 195), (y139 196), (y139 197), (y139 198), (y139 199), (y139 200), (y139 201), (y139 202), .bool true, .bool false], rfl⟩
      ·exfalso
       obtain ⟨b_, hb_, s_, hs_, e1_, e2_, e3_⟩ := all_src hPi hsrc (List.mem_of_getElem? hy_x128) (List.mem_of_getElem? hx_x138)
       exact hfd cfd b_ (by rw [show wi.toNat = tk.length by omega, List.take_length]; exact hb_) s_ hs_ ⟨e1_, e2_, e3_⟩
    ·rw [decide_eq_false c28_8]
     refine AWp.condF rfl rfl ?_
     refine AWp.exit ?_
     refine AWp.rowV (l := _) pok ?_
     refine sq.c (v := .int .i64 (u)) rfl rfl rfl rfl ?_
     refine sq.c (v := .int .i64 (u + 1)) rfl rfl (okI (wrap_i64 (by omega) (by omega))) rfl ?_
     refine sq.c (v := .int .i64 (u + 1)) rfl rfl rfl rfl ?_
     refine sq.e ?_
     refine ⟨_, _, rfl, (by omega), u + 1, rfl, rfl, hn, hf, (by omega), (by omega), getV [undef, undef, (y129 2), undef, undef, undef, undef, undef, undef, undef, undef, undef, undef, undef, .int .i64 (v), (y129 15), (y129 16), (y129 17), undef, undef, undef, undef, undef, undef, undef, undef, undef, undef, undef, undef, undef, undef, undef, undef, undef, undef, undef, undef, undef, undef, undef, undef, undef, undef, undef, undef, undef, undef, undef, undef, undef, undef, undef, undef, undef, undef, undef, undef, undef, undef, undef, undef, undef, undef, undef, undef, undef, undef, undef, undef, undef, undef, undef, undef, undef, undef, undef, undef, undef, undef, undef, undef, undef, undef, undef, undef, undef, undef, undef, undef, undef, undef, undef, undef, undef, undef, undef, undef, undef, undef, undef, undef, undef, undef, undef, undef, undef, undef, undef, undef, undef, undef, undef, .int .i64 (u), .slice a_u (ro_u.length) c_u, .int .i64 (((ro_u.length : Nat) : Int)), .bool true, .int .i64 (u), .int .i64 (u + 1), .int .i64 (v), .slice a_u (ro_u.length) c_u, .int .i64 (u), .pointer (some ⟨b131, o132, none⟩), .pointer (some ⟨b131, o132 + 1, none⟩), .pointer (some ⟨b131, o132 + 2, none⟩), .slice a2_x128 (y_x128.2.2.length) c2_x128, .int .i64 (((y_x128.2.2.length : Nat) : Int)), .bool false, (y129 128), (y129 129), (y129 130), (y129 131), (y129 132), (y129 133), (y129 134), (y129 135), (y129 136), (y129 137), (y129 138), (y129 139), (y129 140), (y129 141), (y129 142), (y129 143), (y129 144), (y129 145), (y129 146), (y129 147), (y129 148), (y129 149), (y129 150), (y129 151), (y129 152), (y129 153), (y129 154), (y129 155), (y129 156), (y129 157), (y129 158), (y129 159), (y129 160), (y129 161), (y129 162), (y129 163), (y129 164), (y129 165), (y129 166), (y129 167), (y129 168), (y129 169), (y129 170), (y129 171), (y129 172), (y129 173), (y129 174), (y129 175), (y129 176), (y129 177), (y129 178), (y129 179), (y129 180), (y129 181), (y129 182), (y129 183), (y129 184), (y129 185), (y129 186), (y129 187), (y129 188), (y129 189), (y129 190), (y129 191), (y129 192), (y129 193), (y129 194), (y129 195), (y129 196), (y129 197), (y129 198), (y129 199), (y129 200), (y129 201), (y129 202), (y129 203), (y129 204)], rfl⟩
   ·rw [decide_eq_false c25_3]
    refine AWp.condF rfl rfl ?_
    refine AWp.exit ?_
    refine AWp.seq (AWp.rowV (l := _) pok ?_)
    refine sq.c (v := .bool true) rfl rfl rfl rfl ?_
    refine sq.e ?_
    refine AWp.ret ?_
    refine ⟨rfl, [.bool true], rfl, .bool true, rfl, hs, hn, ?_⟩
    rfl
end Go.Proofs.YtkpaklofdkjinaaDoor
namespace Go.Proofs.YtkpaklofdkjinaaDoor
open Go Go.Abs Go.ChangeShapes Go.RowKit Go.WideShapes
set_option maxRecDepth 100000
set_option maxHeartbeats 1000000
theorem exists_list {α : Type} {Q : Nat → α → Prop} : ∀ (len : Nat), (∀ i, i < len → ∃ x, Q i x) → ∃ ls : List α, ls.length = len ∧ ∀ i x, ls[i]? = some x → Q i x := by
  intro len
  induction len with
  | zero => intro _; exact ⟨[], rfl, fun i x h => by simp at h⟩
  | succ len ih =>
    intro h
    obtain ⟨ls, hl, hq⟩ := ih fun i hi => h i (by omega)
    obtain ⟨x, hx⟩ := h len (by omega)
    refine ⟨ls ++ [x], by simp [hl], fun i y hy => ?_⟩
    by_cases hi : i < ls.length
    · rw [List.getElem?_append_left hi] at hy; exact hq i y hy
    · rw [List.getElem?_append_right (by omega)] at hy
      have : i - ls.length = 0 := by
        cases hc : i - ls.length with
        | zero => rfl
        | succ k => rw [hc] at hy; simp at hy
      rw [this] at hy
      simp at hy
      subst hy
      rw [show i = len by omega]
      exact hx
theorem choose_list {β γ : Type} {O : β → γ → Prop} {bs : List β} (h : ∀ b ∈ bs, ∃ c, O b c) : ∃ cs : List γ, cs.length = bs.length ∧ ∀ (i : Nat) b c, bs[i]? = some b → cs[i]? = some c → O b c := by
  obtain ⟨cs, hl, hq⟩ := exists_list (Q := fun i c => ∀ b, bs[i]? = some b → O b c) bs.length fun i hi => by
    obtain ⟨c, hc⟩ := h _ (List.getElem_mem hi)
    refine ⟨c, fun b hb => ?_⟩
    rw [List.getElem?_eq_getElem hi] at hb
    cases hb; exact hc
  exact ⟨cs, hl, fun i b c hb hc => hq i c hc b hb⟩
theorem row_cell {α : Type} (E : Enc α) {xs : List α} {i : Nat} {y : Value} (h : (E.row xs)[i]? = some y) : ∃ x, xs[i / E.k]? = some x ∧ (E.cells x)[i % E.k]? = some y ∧ i / E.k < xs.length := by
  have hi := (List.getElem?_eq_some_iff.1 h).1
  rw [E.row_length] at hi
  have hq : i / E.k < xs.length := by rw [Nat.div_lt_iff_lt_mul E.pos, Nat.mul_comm]; exact hi
  refine ⟨xs[i / E.k], List.getElem?_eq_getElem hq, ?_, hq⟩
  have hr : i % E.k < (E.cells xs[i / E.k]).length := by rw [E.len]; exact Nat.mod_lt _ E.pos
  have e := E.row_get xs (i / E.k) _ (List.getElem?_eq_getElem hq) (i % E.k) _ (List.getElem?_eq_getElem hr)
  rw [Nat.div_add_mod] at e
  rw [h] at e
  rw [List.getElem?_eq_getElem hr]
  exact e.symm
def OSl {α : Type} (E : Enc α) (W : World) (v : Value) (ls : List α) : Prop :=
  (v = .slice none 0 0 ∧ ls = []) ∨ (∃ a, v = .slice (some a) 0 0 ∧ ls = []) ∨
  ∃ (bk off cap : Nat) (c : Array Value) (el : TypeId) (fr : Nat × Nat), v = .slice (some ⟨bk, off, none⟩) ls.length cap ∧ ls.length ≤ cap ∧ cap ≤ maxLen ∧ W.heap[bk]? = some (.cells c el fr) ∧ off + E.k * ls.length ≤ c.size ∧ ∀ i y, (E.row ls)[i]? = some y → c[off + i]? = some y
theorem cell_at {W : World} {a : Addr} {z : Value} (h : W.cell? a = some z) : ∃ bk off c el fr, a = ⟨bk, off, none⟩ ∧ W.heap[bk]? = some (.cells c el fr) ∧ off < c.size := by
  have hs := World.cell?_spot h
  obtain ⟨bk, off, sp⟩ := a
  simp only at hs
  subst hs
  unfold World.cell? at h
  split at h
  · rename_i c el fr hh
    simp at h
    exact ⟨bk, off, c, el, fr, rfl, hh, (Array.getElem?_eq_some_iff.1 h).1⟩
  · cases h
theorem cells_at {W : World} {base n : Nat} {a : Addr} {cs : List Value} (h : W.cells? base a n = some cs) : ∀ j, j < n → ∃ z, cs[j]? = some z ∧ W.cell? (a.add j) = some z := by
  intro j hj
  unfold World.cells? at h
  split at h
  · exact Lib.mapM_at h j j (by rw [List.getElem?_range hj])
  · cases h
theorem open_sl {α : Type} {E : Enc α} {Q : α → Prop} {H : Type} {enc : TypeId × Value → H} {W : World} {base : Nat} {held : Bool} {t e : TypeId} (ut : Tryd.prog.underlying t = some (.slice e)) (hk : Tryd.prog.cellsOf e = E.k)
    (one : ∀ {n : Nat} {cs : List Value} {x : DataW H × List MemPlace}, DataW.trod enc Tryd.prog W base (fun _ => true) held n e cs = some x → ∃ a : α, cs = E.cells a ∧ Q a)
    {fuel : Nat} {v : Value} {x : DataW H × List MemPlace} (h : DataW.trod enc Tryd.prog W base (fun _ => true) held fuel t [v] = some x) : ∃ ls, OSl E W v ls ∧ ∀ a ∈ ls, Q a := by
  rcases DataW.trod_slice ut h with ⟨h1, _⟩ | ⟨a, len, cap, elems, rest, n, rfl, h1, _, _, hl, hm, hlen, hel, hr, _⟩
  · cases h1
    exact ⟨[], .inl ⟨rfl, rfl⟩, fun a ha => by cases ha⟩
  · cases h1
    by_cases hc : cap = 0
    · have h0 : len = 0 := by omega
      subst hc; subst h0
      exact ⟨[], .inr (.inl ⟨a, rfl, rfl⟩), fun a ha => by cases ha⟩
    · rw [hk] at hel
      obtain ⟨hr1, hr2⟩ := hr rfl
      rw [hk] at hr2
      have hkp := E.pos
      have add0 : a.add 0 = a := by unfold Addr.add; rfl
      have key : ∃ z, W.cell? a = some z := by
        by_cases h0 : len = 0
        · have e1 := hr2 0 (by omega)
          obtain ⟨y, hy⟩ : ∃ y, rest[0]? = some y := ⟨rest[0]'(by omega), List.getElem?_eq_getElem _⟩
          rw [hy, Option.bind_eq_some_iff] at e1
          obtain ⟨cs, hcs, _⟩ := e1
          obtain ⟨z, _, hz⟩ := cells_at hcs 0 hkp
          rw [h0, Nat.zero_add, Nat.zero_mul, add0, add0] at hz
          exact ⟨z, hz⟩
        · have e1 := hel 0 (by omega)
          obtain ⟨y, hy⟩ : ∃ y, elems[0]? = some y := ⟨elems[0]'(by omega), List.getElem?_eq_getElem _⟩
          rw [hy, Option.bind_eq_some_iff] at e1
          obtain ⟨cs, hcs, _⟩ := e1
          obtain ⟨z, _, hz⟩ := cells_at hcs 0 hkp
          rw [Nat.zero_mul, add0, add0] at hz
          exact ⟨z, hz⟩
      obtain ⟨z, hz⟩ := key
      obtain ⟨bk, off, c, el, fr, rfl, hheap, hoff⟩ := cell_at hz
      have hcell : ∀ i, i < len → ∃ x : α, Q x ∧ ∀ j y, (E.cells x)[j]? = some y → c[off + (E.k * i + j)]? = some y := by
        intro i hi
        have h2 := hel i hi
        obtain ⟨y, hy⟩ : ∃ y, elems[i]? = some y := ⟨elems[i]'(by omega), List.getElem?_eq_getElem _⟩
        rw [hy, Option.bind_eq_some_iff] at h2
        obtain ⟨cs, hcs, htr⟩ := h2
        obtain ⟨x, rfl, hx⟩ := one htr
        refine ⟨x, hx, fun j y hj => ?_⟩
        have hjl : j < E.k := by have := (List.getElem?_eq_some_iff.1 hj).1; rw [E.len] at this; exact this
        obtain ⟨z, f0, g0⟩ := cells_at hcs j hjl
        rw [hj] at f0
        cases f0
        rw [Addr.add_plain, Addr.add_plain, cell_of_block hheap] at g0
        rw [← g0]; congr 1; rw [Nat.mul_comm]; omega
      obtain ⟨ls, hll, hq⟩ := exists_list len hcell
      subst hll
      have hcells : ∀ i y, (E.row ls)[i]? = some y → c[off + i]? = some y := by
        intro i y hy
        obtain ⟨x, hx, hj, _⟩ := row_cell E hy
        have := (hq _ _ hx).2 _ _ hj
        rw [Nat.div_add_mod] at this
        exact this
      refine ⟨ls, .inr (.inr ⟨bk, off, cap, c, el, fr, rfl, hl, hm, hheap, ?_, hcells⟩), fun x hx => ?_⟩
      · rcases Nat.eq_zero_or_pos (E.k * ls.length) with h0 | h0
        · omega
        · have hlt : E.k * ls.length - 1 < (E.row ls).length := by rw [E.row_length]; omega
          have := hcells _ _ (List.getElem?_eq_getElem hlt)
          have := (Array.getElem?_eq_some_iff.1 this).1
          omega
      · obtain ⟨i, hi⟩ := List.getElem?_of_mem hx
        exact (hq i x hi).1
theorem add_sl {α β : Type} (E : Enc α) (E' : Enc β) (hkk : E.k = E'.k) {μ : Mu} {h : Heap} {n : Nat} {W : World} {v : Value} {ws : List β} (hr : Rel Tryd.prog μ h n W) (ro : ∀ b o, h.get b = some o → o.excl = false) (o : OSl E' W v ws)
    {xs : List α} (hlen : xs.length = ws.length) (hrel : ∀ (i : Nat) y y', (E.row xs)[i]? = some y → (E'.row ws)[i]? = some y' → VRel μ y y') :
    ∃ (μ' : Mu) (h' : Heap) (n' : Nat) (a : Option Addr) (cp : Nat), Rel Tryd.prog μ' h' n' W ∧ (∀ b o, h'.get b = some o → o.excl = false) ∧ h.sub h' ∧ μ.le μ' ∧ VRel μ' (.slice a xs.length cp) v ∧ FRow E h' (.slice a xs.length cp) xs ∧ xs.length < 9223372036854775808 ∧ xs.length ≤ cp ∧ cp < U := by
  rcases o with ⟨rfl, rfl⟩ | ⟨a, rfl, rfl⟩ | ⟨bk, off, cap, c, el, fr, rfl, hlc, hcm, hb, hoff, hcells⟩
  · obtain rfl : xs = [] := List.eq_nil_of_length_eq_zero hlen
    exact ⟨μ, h, n, none, 0, hr, ro, Heap.sub_refl _, μ.le_refl, .snil, .nil, by simp, by simp, by decide⟩
  · obtain rfl : xs = [] := List.eq_nil_of_length_eq_zero hlen
    exact ⟨μ, h, n, some ⟨0, 0, none⟩, 0, hr, ro, Heap.sub_refl _, μ.le_refl, .szero _ _ _, .inl ⟨rfl, .inr ⟨0, 0, 0, rfl⟩⟩, by simp, by simp, by decide⟩
  · have hl1 : (E.row xs).length = E'.k * ws.length := by rw [E.row_length, hkk, hlen]
    have hle : μ.le (μ.set n ⟨bk, off, c.size, 0⟩) := by
      intro b m hbm
      unfold Mu.set
      by_cases e : b = n
      · subst e; rw [hr.bound _ (Nat.le_refl _)] at hbm; cases hbm
      · simp [e, hbm]
    obtain ⟨hr1, ro1⟩ := hr.addRO ro (o := .cells (E.row xs) false ⟨el, 0, false⟩) (x := .cells c el fr) (m := ⟨bk, off, c.size, 0⟩) rfl hb
      ⟨rfl, by rw [hl1]; exact hoff, fun i y hy => by
        have hi : i < (E'.row ws).length := by rw [E'.row_length, ← hl1]; exact (List.getElem?_eq_some_iff.1 hy).1
        exact ⟨(E'.row ws)[i], hcells _ _ (List.getElem?_eq_getElem hi), (hrel i y _ hy (List.getElem?_eq_getElem hi)).mono hle⟩, by simp, rfl, rfl, by simp⟩
    have hmax : maxLen < U := by decide
    have hm : xs.length < 9223372036854775808 := by rw [hlen]; exact Nat.lt_of_le_of_lt (Nat.le_trans hlc hcm) (by decide)
    have hf : Free h n := fun b hb => hr.below hb
    refine ⟨_, _, _, some ⟨n, 0, none⟩, cap, hr1, ro1, sub_alloc hf, hle, ?_, ?_, hm, by rw [hlen]; exact hlc, Nat.lt_of_le_of_lt hcm hmax⟩
    · rw [hlen]
      exact VRel.slice (b := n) 0 ws.length cap cap (Mu.set_same _ _ _) (.inl ⟨by omega, rfl⟩)
    · refine .inr ⟨n, 0, cap, _, ⟨el, 0, false⟩, rfl, by rw [hlen]; exact hlc, Trie.get_set_same _ _ _, ?_, ?_⟩
      · rw [List.drop_zero, ← E.row_length, List.take_length]
      · rw [E.row_length]; omega
theorem row_rel {α β : Type} (E : Enc α) (E' : Enc β) (hkk : E.k = E'.k) {μ : Mu} {xs : List α} {ws : List β} (h : ∀ (i : Nat) a b, xs[i]? = some a → ws[i]? = some b → ∀ (j : Nat) y y', (E.cells a)[j]? = some y → (E'.cells b)[j]? = some y' → VRel μ y y') :
    ∀ (i : Nat) y y', (E.row xs)[i]? = some y → (E'.row ws)[i]? = some y' → VRel μ y y' := fun i y y' hy hy' => by
  obtain ⟨x, hx, hj, _⟩ := row_cell E hy
  obtain ⟨w, hw, hj', _⟩ := row_cell E' hy'
  rw [hkk] at hx hj
  exact h _ _ _ hx hw _ _ _ hj hj'
theorem row_flat {α : Type} (E : Enc α) (hfl : ∀ x, ((E.cells x).all flat) = true) {μ : Mu} {xs : List α} : ∀ (i : Nat) y y', (E.row xs)[i]? = some y → (E.row xs)[i]? = some y' → VRel μ y y' := fun i y y' hy hy' => by
  rw [hy] at hy'
  cases hy'
  obtain ⟨x, _, hj, _⟩ := row_cell E hy
  exact .flat_self (List.all_eq_true.1 (hfl x) y (List.mem_of_getElem? hj))
theorem add_list {β γ α : Type} {W : World} (O : β → γ → Prop) (R : Mu → α → β → Prop) (Fa : Heap → α → γ → Prop) (hRm : ∀ μ μ' a b, μ.le μ' → R μ a b → R μ' a b) (hFm : ∀ (h h' : Heap) a c, h.sub h' → Fa h a c → Fa h' a c)
    (one : ∀ (μ : Mu) (h : Heap) (n : Nat) b c, Rel Tryd.prog μ h n W → (∀ b o, h.get b = some o → o.excl = false) → O b c → ∃ (μ' : Mu) (h' : Heap) (n' : Nat) (a : α), Rel Tryd.prog μ' h' n' W ∧ (∀ b o, h'.get b = some o → o.excl = false) ∧ h.sub h' ∧ μ.le μ' ∧ R μ' a b ∧ Fa h' a c) :
    ∀ (bs : List β) (cs : List γ) (μ : Mu) (h : Heap) (n : Nat), cs.length = bs.length → (∀ (i : Nat) b c, bs[i]? = some b → cs[i]? = some c → O b c) → Rel Tryd.prog μ h n W → (∀ b o, h.get b = some o → o.excl = false) →
      ∃ (μ' : Mu) (h' : Heap) (n' : Nat) (az : List α), Rel Tryd.prog μ' h' n' W ∧ (∀ b o, h'.get b = some o → o.excl = false) ∧ h.sub h' ∧ μ.le μ' ∧ az.length = bs.length ∧ (∀ (i : Nat) a b, az[i]? = some a → bs[i]? = some b → R μ' a b) ∧ (∀ (i : Nat) a c, az[i]? = some a → cs[i]? = some c → Fa h' a c) := by
  intro bs
  induction bs with
  | nil =>
    intro cs μ h n hl hO hr ro
    exact ⟨μ, h, n, [], hr, ro, Heap.sub_refl _, μ.le_refl, rfl, (fun i a b ha => by simp at ha), (fun i a b ha => by simp at ha)⟩
  | cons b bs ih =>
    intro cs μ h n hl hO hr ro
    cases cs with
    | nil => simp at hl
    | cons c cs =>
      obtain ⟨m1, k1, n1, a, r1, ro1, s1, l1, x1, y1⟩ := one μ h n b c hr ro (hO 0 b c rfl rfl)
      obtain ⟨m2, k2, n2, az, r2, ro2, s2, l2, e2, x2, y2⟩ := ih cs m1 k1 n1 (by simpa using hl) (fun i b c hb hc => hO (i + 1) b c (by simpa using hb) (by simpa using hc)) r1 ro1
      refine ⟨m2, k2, n2, a :: az, r2, ro2, Heap.sub_trans s1 s2, Mu.le_trans l1 l2, by simp [e2], fun i a' b' ha hb => ?_, fun i a' c' ha hc => ?_⟩
      · cases i with
        | zero => simp at ha hb; subst ha; subst hb; exact hRm _ _ _ _ l2 x1
        | succ i => exact x2 i a' b' (by simpa using ha) (by simpa using hb)
      · cases i with
        | zero => simp at ha hc; subst ha; subst hc; exact hFm _ _ _ _ s2 y1
        | succ i => exact y2 i a' c' (by simpa using ha) (by simpa using hc)
/-! Series, batches. -/
def OSer (W : World) (r : RSer) (s : Ser) : Prop := OSl encLab W r.1 s.1 ∧ OSl encSmp W r.2 s.2
def OSers (W : World) (v : Value) (ss : List Ser) : Prop := ∃ ws, OSl encSer W v ws ∧ ss.length = ws.length ∧ ∀ (i : Nat) r s, ws[i]? = some r → ss[i]? = some s → OSer W r s
def OBat (W : World) (r : RBat) (b : Bat) : Prop := r.ten = b.ten ∧ r.clu = b.clu ∧ r.epo = b.epo ∧ OSers W r.ser b.ser
def OBats (W : World) (v : Value) (bs : List Bat) : Prop := ∃ ws, OSl encBat W v ws ∧ bs.length = ws.length ∧ ∀ (i : Nat) r b, ws[i]? = some r → bs[i]? = some b → OBat W r b
section
variable {H : Type} {enc : TypeId × Value → H} {W : World} {base : Nat} {held : Bool}
theorem ut_str : Tryd.prog.underlying 9 = some .string := by kernel_rfl
theorem open_lab {n : Nat} {cs : List Value} {x : DataW H × List MemPlace} (h : DataW.trod enc Tryd.prog W base (fun _ => true) held n 61 cs = some x) : ∃ a : Lab, cs = encLab.cells a ∧ True := by
  obtain ⟨y0, y1, n, _, hl, h0, h1⟩ := trod_struct2 Tryd.underlying61 h
  rw [show Tryd.prog.cellsOf 61 = 2 by kernel_rfl] at hl
  match cs, hl with
  | [a, b], _ =>
    obtain ⟨s, hs, _⟩ := DataW.trod_string ut_str h0
    obtain ⟨t, ht, _⟩ := DataW.trod_string ut_str h1
    rw [show Tryd.prog.cellsOf 9 = 1 by kernel_rfl] at hs ht
    have hs' : [a] = [Value.string s] := hs
    have ht' : [b] = [Value.string t] := ht
    cases hs'; cases ht'
    exact ⟨(s, t), rfl, trivial⟩
theorem open_smp {n : Nat} {cs : List Value} {x : DataW H × List MemPlace} (h : DataW.trod enc Tryd.prog W base (fun _ => true) held n 53 cs = some x) : ∃ a : Samp, cs = encSmp.cells a ∧ True := by
  obtain ⟨y0, y1, n, _, hl, h0, h1⟩ := trod_struct2 Tryd.underlying53 h
  rw [show Tryd.prog.cellsOf 53 = 2 by kernel_rfl] at hl
  match cs, hl with
  | [a, b], _ =>
    obtain ⟨s, hs, _⟩ := DataW.trod_int (k := .i64) (by kernel_rfl) h0
    obtain ⟨t, ht, _⟩ := DataW.trod_int (k := .u64) (by kernel_rfl) h1
    rw [show Tryd.prog.cellsOf 2 = 1 by kernel_rfl] at hs
    rw [show Tryd.prog.cellsOf 51 = 1 by kernel_rfl] at ht
    have hs' : [a] = [Value.int .i64 s] := hs
    have ht' : [b] = [Value.int .u64 t] := ht
    cases hs'; cases ht'
    exact ⟨(s, t), rfl, trivial⟩
theorem open_ser {n : Nat} {cs : List Value} {x : DataW H × List MemPlace} (h : DataW.trod enc Tryd.prog W base (fun _ => true) held n 43 cs = some x) : ∃ a : RSer, cs = encSer.cells a ∧ ∃ s : Ser, OSer W a s := by
  obtain ⟨y0, y1, n, _, hl, h0, h1⟩ := trod_struct2 Tryd.underlying43 h
  rw [show Tryd.prog.cellsOf 43 = 2 by kernel_rfl] at hl
  match cs, hl with
  | [a, b], _ =>
    rw [show Tryd.prog.cellsOf 40 = 1 by kernel_rfl] at h0
    rw [show Tryd.prog.cellsOf 41 = 1 by kernel_rfl] at h1
    obtain ⟨ls, o1, _⟩ := open_sl (E := encLab) (Q := fun _ => True) Tryd.underlying40 (by kernel_rfl) open_lab (v := a) h0
    obtain ⟨xs, o2, _⟩ := open_sl (E := encSmp) (Q := fun _ => True) Tryd.underlying41 (by kernel_rfl) open_smp (v := b) h1
    exact ⟨(a, b), rfl, (ls, xs), o1, o2⟩
theorem open_sers {n : Nat} {v : Value} {x : DataW H × List MemPlace} (h : DataW.trod enc Tryd.prog W base (fun _ => true) held n 29 [v] = some x) : ∃ ss, OSers W v ss := by
  obtain ⟨ws, o, q⟩ := open_sl (E := encSer) (Q := fun a => ∃ s, OSer W a s) Tryd.underlying29 (by kernel_rfl) open_ser h
  obtain ⟨ss, hl, hq⟩ := choose_list q
  exact ⟨ss, ws, o, hl, hq⟩
theorem open_bat {n : Nat} {cs : List Value} {x : DataW H × List MemPlace} (h : DataW.trod enc Tryd.prog W base (fun _ => true) held n 31 cs = some x) : ∃ a : RBat, cs = encBat.cells a ∧ ∃ b : Bat, OBat W a b := by
  obtain ⟨xs, n, _, _, hl, hxl, hall⟩ := DataW.trod_struct Tryd.underlying31 h
  rw [show Tryd.prog.cellsOf 31 = 4 by kernel_rfl] at hl
  match cs, hl, xs, hxl with
  | [a, b, c, d], _, [y0, y1, y2, y3], _ =>
    have h0 := hall 0 _ rfl
    have h1 := hall 1 _ rfl
    have h2 := hall 2 _ rfl
    have h3 := hall 3 _ rfl
    have k0 : DataW.trod enc Tryd.prog W base (fun _ => true) held n 9 (([a, b, c, d].drop 0).take (Tryd.prog.cellsOf 9)) = some y0 := h0
    have k1 : DataW.trod enc Tryd.prog W base (fun _ => true) held n 9 (([a, b, c, d].drop 1).take (Tryd.prog.cellsOf 9)) = some y1 := h1
    have k2 : DataW.trod enc Tryd.prog W base (fun _ => true) held n 2 (([a, b, c, d].drop 2).take (Tryd.prog.cellsOf 2)) = some y2 := h2
    have k3 : DataW.trod enc Tryd.prog W base (fun _ => true) held n 29 (([a, b, c, d].drop 3).take (Tryd.prog.cellsOf 29)) = some y3 := h3
    rw [show Tryd.prog.cellsOf 9 = 1 by kernel_rfl] at k0 k1
    rw [show Tryd.prog.cellsOf 2 = 1 by kernel_rfl] at k2
    rw [show Tryd.prog.cellsOf 29 = 1 by kernel_rfl] at k3
    obtain ⟨s, hs, _⟩ := DataW.trod_string ut_str k0
    obtain ⟨t, ht, _⟩ := DataW.trod_string ut_str k1
    obtain ⟨e, he, _⟩ := DataW.trod_int (k := .i64) (by kernel_rfl) k2
    obtain ⟨ss, o⟩ := open_sers (v := d) k3
    have hs' : [a] = [Value.string s] := hs
    have ht' : [b] = [Value.string t] := ht
    have he' : [c] = [Value.int .i64 e] := he
    cases hs'; cases ht'; cases he'
    exact ⟨⟨s, t, e, d⟩, rfl, ⟨s, t, e, ss⟩, rfl, rfl, rfl, o⟩
theorem open_bats {n : Nat} {v : Value} {x : DataW H × List MemPlace} (h : DataW.trod enc Tryd.prog W base (fun _ => true) held n 22 [v] = some x) : ∃ bs, OBats W v bs := by
  obtain ⟨ws, o, q⟩ := open_sl (E := encBat) (Q := fun a => ∃ b, OBat W a b) Tryd.underlying22 (by kernel_rfl) open_bat h
  obtain ⟨bs, hl, hq⟩ := choose_list q
  exact ⟨bs, ws, o, hl, hq⟩
end
theorem flat_lab (x : Lab) : ((encLab.cells x).all flat) = true := by
  simp only [encLab, List.all_cons, List.all_nil, Bool.and_true, Bool.and_eq_true]
  exact ⟨rfl, rfl⟩
theorem flat_smp (x : Samp) : ((encSmp.cells x).all flat) = true := by
  simp only [encSmp, List.all_cons, List.all_nil, Bool.and_true, Bool.and_eq_true]
  exact ⟨rfl, rfl⟩
section
variable {μ : Mu} {h : Heap} {n : Nat} {W : World} {v : Value}
theorem add_sers (hr : Rel Tryd.prog μ h n W) (ro : ∀ b o, h.get b = some o → o.excl = false) {ss : List Ser} (o : OSers W v ss) :
    ∃ (μ' : Mu) (h' : Heap) (n' : Nat) (a : Option Addr) (cp : Nat) (rs : List RSer), Rel Tryd.prog μ' h' n' W ∧ (∀ b o, h'.get b = some o → o.excl = false) ∧ h.sub h' ∧ μ.le μ' ∧ VRel μ' (.slice a rs.length cp) v ∧ FRow encSer h' (.slice a rs.length cp) rs ∧ FSers h' rs ss ∧ rs.length < 9223372036854775808 := by
  obtain ⟨ws, o1, hl, hO⟩ := o
  obtain ⟨m1, k1, n1, az, r1, ro1, s1, l1, e1, x1, y1⟩ := add_list (α := RSer) (W := W) (OSer W) (fun μ (a : RSer) (b : RSer) => VRel μ a.1 b.1 ∧ VRel μ a.2 b.2) FSer (fun μ μ' a b l q => ⟨q.1.mono l, q.2.mono l⟩) (fun h h' a c s q => q.keep (.sub s)) (fun μ h n b c hr ro q => by
    obtain ⟨m1, k1, n1, a1, p1, r1, ro1, s1, l1, x1, y1, _⟩ := add_sl encLab encLab rfl hr ro q.1 rfl (row_flat encLab flat_lab)
    obtain ⟨m2, k2, n2, a2, p2, r2, ro2, s2, l2, x2, y2, _⟩ := add_sl encSmp encSmp rfl r1 ro1 q.2 rfl (row_flat encSmp flat_smp)
    exact ⟨m2, k2, n2, (.slice a1 c.1.length p1, .slice a2 c.2.length p2), r2, ro2, Heap.sub_trans s1 s2, Mu.le_trans l1 l2, ⟨x1.mono l2, x2⟩, y1.keep (.sub s2), y2⟩) ws ss μ h n hl hO hr ro
  obtain ⟨m2, k2, n2, a, cp, r2, ro2, s2, l2, x2, y2, z2, _⟩ := add_sl encSer encSer rfl r1 ro1 o1 e1 (row_rel encSer encSer rfl fun i a b ha hb j y y' hy hy' => by
    have q := x1 i a b ha hb
    match j, hy, hy' with
    | 0, hy, hy' => cases hy; cases hy'; exact q.1
    | 1, hy, hy' => cases hy; cases hy'; exact q.2
    | j + 2, hy, _ => simp [encSer] at hy)
  exact ⟨m2, k2, n2, a, cp, az, r2, ro2, Heap.sub_trans s1 s2, Mu.le_trans l1 l2, x2, y2, ⟨by rw [e1, hl], fun i r s a b => (y1 i r s a b).keep (.sub s2)⟩, z2⟩
theorem add_bats (hr : Rel Tryd.prog μ h n W) (ro : ∀ b o, h.get b = some o → o.excl = false) {bs : List Bat} (o : OBats W v bs) :
    ∃ (μ' : Mu) (h' : Heap) (n' : Nat) (a : Option Addr) (cp : Nat) (rs : List RBat), Rel Tryd.prog μ' h' n' W ∧ (∀ b o, h'.get b = some o → o.excl = false) ∧ h.sub h' ∧ μ.le μ' ∧ VRel μ' (.slice a rs.length cp) v ∧ FRow encBat h' (.slice a rs.length cp) rs ∧ FBats h' rs bs ∧ rs.length < 9223372036854775808 := by
  obtain ⟨ws, o1, hl, hO⟩ := o
  obtain ⟨m1, k1, n1, az, r1, ro1, s1, l1, e1, x1, y1⟩ := add_list (α := RBat) (W := W) (OBat W) (fun μ (a : RBat) (b : RBat) => a.ten = b.ten ∧ a.clu = b.clu ∧ a.epo = b.epo ∧ VRel μ a.ser b.ser) FBat (fun μ μ' a b l q => ⟨q.1, q.2.1, q.2.2.1, q.2.2.2.mono l⟩) (fun h h' a c s q => q.keep (.sub s)) (fun μ h n b c hr ro q => by
    obtain ⟨m1, k1, n1, a1, p1, rs, r1, ro1, s1, l1, x1, y1, z1, _⟩ := add_sers hr ro q.2.2.2
    exact ⟨m1, k1, n1, ⟨b.ten, b.clu, b.epo, .slice a1 rs.length p1⟩, r1, ro1, s1, l1, ⟨rfl, rfl, rfl, x1⟩, q.1, q.2.1, q.2.2.1, rs, y1, z1⟩) ws bs μ h n hl hO hr ro
  obtain ⟨m2, k2, n2, a, cp, r2, ro2, s2, l2, x2, y2, z2, _⟩ := add_sl encBat encBat rfl r1 ro1 o1 e1 (row_rel encBat encBat rfl fun i a b ha hb j y y' hy hy' => by
    obtain ⟨q1, q2, q3, q4⟩ := x1 i a b ha hb
    match j, hy, hy' with
    | 0, hy, hy' => cases hy; cases hy'; rw [q1]; exact .string _
    | 1, hy, hy' => cases hy; cases hy'; rw [q2]; exact .string _
    | 2, hy, hy' => cases hy; cases hy'; rw [q3]; exact .int _ _
    | 3, hy, hy' => cases hy; cases hy'; exact q4
    | j + 4, hy, _ => simp [encBat] at hy)
  exact ⟨m2, k2, n2, a, cp, az, r2, ro2, Heap.sub_trans s1 s2, Mu.le_trans l1 l2, x2, y2, ⟨by rw [e1, hl], fun i r s a b => (y1 i r s a b).keep (.sub s2)⟩, z2⟩
end
theorem law_calls {W : World} {f : FuncId} {args args' : Array Value} {μ : Mu} {h : Heap} {n : Nat} (ro : ∀ b o, h.get b = some o → o.excl = false) (hr : Rel Tryd.prog μ h n W) (ha : ARel μ args args') (c : Tells Tryd.prog f args.toList h n (.bool true)) :
    Calls Tryd.prog f args' W fun e W' => e = .returned (.bool true) ∧ Below W.heap.size W W' :=
  calls_of_acall ro hr ha rfl (ACall.mono c fun _ h' _ _ _ ⟨e, _, _⟩ => ⟨h', Heap.sub_refl _, e⟩)
end Go.Proofs.YtkpaklofdkjinaaDoor
