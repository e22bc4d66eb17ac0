/- texts of the claim, part 8: FenT10 FenOpn. -/
import Derived.Test.YtkpaklofdkjinaaDoorPv7
import Derived.SevenTiedAt
import Derived.ChangeSame
set_option linter.unusedVariables false
set_option linter.unusedSimpArgs false
set_option linter.unusedSectionVars false
namespace Go.Proofs.YtkpaklofdkjinaaDoor
open Go Go.Abs Go.RowKit Go.Shelf
set_option maxRecDepth 100000
set_option maxHeartbeats 8000000
theorem findX_spec {h : Heap} {n : Nat} {b f g kf kg : Nat} {c : CI} (F : FM) (G : SM) (S : SP) (hb_ : h.get b = some (.cells [.map (some f), .map (some g)] true c)) (hf_ : h.get f = some (.map (mapE plV intV F) kf)) (hg_ : h.get g = some (.map (mapE plV ownV G) kg)) (okF : MOk F kf) (okG : MOk G kg) (hS : SMIs h G S) (ne_f_g : f ≠ g) {a : Option Addr} {cp : Nat} (ten : ByteArray) (ls : List Lab) (hl : IsRow encLab h (.slice a ls.length cp) ls) (hlen : ls.length ≤ 1200) (hsz : ∀ x ∈ ls, x.1.data.toList.length < 6000 ∧ x.2.data.toList.length < 6000) (hN : (wasOf S (ten, keyA ls)).length < 1000000000000) :
    Makes Tryd.prog 18 [.pointer (some ⟨b, 0, none⟩), .string (ten), .slice a (ls.length) cp] h n ([]) (fun v h2 _ => OwnRow encSmp 53 h h2 v (wasOf S (ten, keyA ls))) := by
 refine Makes.free fun hf => ?_
 have ne_b_f : b ≠ f := by intro e; subst e; rw [hb_] at hf_; cases hf_
 have ne_b_g : b ≠ g := by intro e; subst e; rw [hb_] at hg_; cases hg_
 have hs : SubBut h h ([]) := .refl _ _
 have hn : n ≤ n := Nat.le_refl _
 have hf0 := hf
 refine Makes.of_bodyV (args := [.pointer (some ⟨b, 0, none⟩), .string (ten), .slice a (ls.length) cp]) (vs := [.pointer (some ⟨b, 0, none⟩), .string (ten), .slice a (ls.length) cp, undef, undef, undef, undef, undef, undef, undef, undef, undef, undef, undef, undef, undef, undef, undef, undef, undef]) Tryd.func18 rfl rfl ?_
 refine AWp.seq (AWp.rowV (l := _) pok ?_)
 refine sq.c (v := .slice none (0) (0)) rfl rfl rfl rfl ?_
 refine sq.e (AWp.seq (AWp.seq (AWp.rowV (l := _) pok ?_)))
 refine sq.c (v := .pointer (some ⟨b, 0, none⟩)) rfl rfl rfl rfl ?_
 refine sq.c (v := .bool false) rfl rfl (by kernel_rfl) rfl ?_
 refine sq.e ?_
 refine AWp.condF rfl rfl ?_
 refine AWp.skip (AWp.seq ?_)
 refine AWp.anyK pok [0, 1, 2, 3, 4, 5, 6, 7, 8, 9, 10, 11] (by kernel_rfl) (by kernel_rfl) rfl (fun x fr fr' h n hd _ q => ⟨hd ▸ q.1, q.2⟩) ?_
 refine dk.c (v := .pointer (some ⟨b, 0, none⟩)) rfl (by kernel_rfl) rfl rfl rfl rfl ?_
 refine dk.c (v := .pointer (some ⟨b, 0, none⟩)) rfl (by kernel_rfl) rfl rfl rfl rfl ?_
 refine dk.c (v := .pointer (some ⟨b, 1, none⟩)) rfl (by kernel_rfl) rfl rfl (by kernel_rfl) rfl ?_
 refine dk.gB (v := .map (some g)) b rfl (by kernel_rfl) rfl rfl (fun _ q_ => (ld1 (P := Tryd.prog) (t := 67) (p := 1) (v := .map (some g)) (by kernel_rfl) (by kernel_rfl) (q_ _ hb_) rfl)) rfl ?_
 refine dk.c (v := .string (ten)) rfl (by kernel_rfl) rfl rfl rfl rfl ?_
 refine dk.c (v := .slice a (ls.length) cp) rfl (by kernel_rfl) rfl rfl rfl rfl ?_
 refine dk.t (v := .string (keyA ls)) rfl (by kernel_rfl) rfl (CallsF.fn rfl (by kernel_rfl) rfl rfl) (fun hf => key_spec _ (hl.keep hs) hlen hsz) hf rfl ?_
 intro n1 hn2 hf
 have hn := Nat.le_trans hn hn2
 refine dk.c (v := .agg #[.string (ten), .string (keyA ls)]) rfl (by kernel_rfl) rfl rfl (by kernel_rfl) rfl ?_
 obtain ⟨a1_g3_8, c1_g3_8, a2_g3_8, c2_g3_8, e_g3_8, L_g3_8, M_g3_8⟩ := hS.look (ten, keyA ls)
 refine dk.gB (v := .agg #[.slice a1_g3_8 ((mget S (ten, keyA ls)).getD ([], [])).1.length c1_g3_8, .slice a2_g3_8 ((mget S (ten, keyA ls)).getD ([], [])).2.length c2_g3_8]) g rfl (by kernel_rfl) rfl rfl (fun _ q_ => ((lk (P := Tryd.prog) (K := plV) (V := ownV) (kt := 73) (el := 86) (t := 67) (k := (ten, keyA ls)) (d := dOV) Tryd.underlying67 keyPl (by kernel_rfl) rfl (q_ _ hg_)).trans (congrArg (fun z => some (ownV z)) e_g3_8))) rfl ?_
 refine dk.c (v := .slice a2_g3_8 ((mget S (ten, keyA ls)).getD ([], [])).2.length c2_g3_8) rfl (by kernel_rfl) rfl rfl (by kernel_rfl) rfl ?_
 refine dk.k rfl (by kernel_rfl) rfl (CallsF.fn rfl (by kernel_rfl) rfl rfl) (cloneS _ M_g3_8.is (by unfold wasOf at hN; omega)) (keepC (by simp) (keepC (by simp) keepN)) ?_
 rintro v_q h2 n3 R_q s4 hn2 hf
 have R_q := R_q.from hs.sub
 obtain ⟨a0_q, cp0_q, rfl⟩ := R_q.slice
 refine dk.w ?_
 have hs := hs.trans s4
 have hn := Nat.le_trans hn hn2
 refine dk.c (v := .slice a0_q (((mget S (ten, keyA ls)).getD ([], [])).2).length cp0_q) rfl (by kernel_rfl) rfl rfl rfl rfl ?_
 refine dk.e ?_
 refine AWp.ret ?_
 refine ⟨rfl, [.slice a0_q (((mget S (ten, keyA ls)).getD ([], [])).2).length cp0_q], rfl, .slice a0_q (((mget S (ten, keyA ls)).getD ([], [])).2).length cp0_q, rfl, hs, hn, ?_⟩
 exact R_q
theorem findOnC {h : Heap} {n b f g i : Nat} {c : CI} {P : PSt} {G : SM} (s : At h P b f g c G) (q : PInv i P) (hi : i ≤ 100) {a : Option Addr} {cp : Nat} (ten : ByteArray) (ls : List Lab) (hl : IsRow encLab h (.slice a ls.length cp) ls) (hls : ls.length ≤ 1200 ∧ ∀ x ∈ ls, x.1.data.toList.length < 6000 ∧ x.2.data.toList.length < 6000) :
    Makes Tryd.prog 18 [.pointer (some ⟨b, 0, none⟩), .string ten, .slice a ls.length cp] h n [] fun v h2 _ => ∃ a cp, v = .slice a (wasOf P.S (ten, keyA ls)).length cp ∧ FRow encSmp h2 (.slice a (wasOf P.S (ten, keyA ls)).length cp) (wasOf P.S (ten, keyA ls)) ∧ SlOk encSmp h2 a (wasOf P.S (ten, keyA ls)).length cp := by
  have hw := (q.inv.was (ten, keyA ls)).2
  have hU : U = 18446744073709551616 := rfl
  exact makes_fzc (by omega) (findX_spec P.F G P.S s.hb s.hf s.hg s.okF s.okG s.hS s.ne ten ls hl hls.1 hls.2 (by omega))
theorem never_spec {h : Heap} {n : Nat} {a : Option Addr} {cp : Nat} (rs : List RBat) (bs : List Bat) (hr : FRow encBat h (.slice a rs.length cp) rs) (hd : FBats h rs bs) (hld : Laid0 h) (hlen : rs.length < 9223372036854775808) :
    Tells Tryd.prog 5 [.slice a (rs.length) cp] h n (.bool true) := by
 refine Makes.tells (Makes.free fun hf => ?_)
 have hs : SubBut h h ([]) := .refl _ _
 have hn : n ≤ n := Nat.le_refl _
 have hf0 := hf
 refine Makes.of_bodyV (args := [.slice a (rs.length) cp]) (vs := [.slice a (rs.length) cp, undef, undef, undef, undef, undef, undef, undef, undef, undef, undef, undef, undef, undef, undef, undef, undef, undef, undef, undef, undef, undef, undef, undef, undef, undef, undef, undef, undef, undef, undef, undef, undef, undef, undef, undef, undef, undef, undef, undef, undef, undef, undef, undef, undef, undef, undef, undef, undef, undef, undef, undef, undef, undef, undef, undef, undef, undef, undef, undef, undef, undef, undef, undef, undef, undef, undef, undef, undef, undef, undef, undef, undef, undef, undef, undef, undef, undef, undef, undef, undef, undef, undef, undef, undef, undef, undef, undef, undef, undef, undef, undef, undef, undef, undef, undef, undef, undef, undef, undef, undef, undef, undef, undef, undef, undef, undef, undef, undef, undef, undef, undef, undef, undef, undef, undef, undef, undef, undef, undef, undef, undef, undef, undef, undef, undef, undef, undef, undef, undef, undef, undef, undef, undef, undef, undef, undef, undef, undef, undef, undef, undef, undef, undef, undef, undef, undef, undef, undef, undef, undef, undef, undef, undef, undef, undef, undef, undef, undef, undef, undef, undef, undef, undef, undef, undef, undef, undef, undef, undef, undef, undef, undef, undef, undef, undef, undef, undef, undef, undef, undef, undef, undef, undef, undef, undef, undef, undef, undef, undef, undef, undef, undef, undef, undef, undef, undef, undef, undef, undef, undef, undef, undef, undef, undef, undef, undef, undef, undef, undef, undef, undef, undef, undef, undef, undef, undef, undef, undef, undef, undef, undef, undef, undef, undef, undef, undef, undef, undef, undef, undef, undef, undef, undef]) Tryd.func5 rfl rfl ?_
 refine AWp.seq (AWp.rowV (l := _) pok ?_)
 refine sq.c (v := .bool false) rfl rfl rfl rfl ?_
 refine sq.e (AWp.seq (AWp.seq (AWp.rowV (l := _) pok ?_)))
 refine sq.c (v := .slice a (rs.length) cp) rfl rfl rfl rfl ?_
 refine sq.k rfl (CallsF.fn rfl (by kernel_rfl) rfl rfl) (long_spec _ _ (hr.keep (.of0 hs)).is (hd.keep (.of0 hs)).is hlen) ?_
 rintro _ h1 n2 ⟨z_lo, rfl, hz_lo⟩ s3 hn2 hf
 refine sq.w ?_
 have hs := hs.trans s3
 have hn := Nat.le_trans hn hn2
 refine sq.c (v := .bool (z_lo)) rfl rfl rfl rfl ?_
 rcases Bool.eq_false_or_eq_true (z_lo) with c_lo | c_lo
 ·rw [c_lo]
  refine sq.s (wantF (g := 2) (d := 20) rfl rfl rfl) rfl ?_
  refine sq.s (wantF (g := 2) (d := 20) rfl rfl rfl) rfl ?_
  refine sq.c (v := .bool true) rfl rfl rfl rfl ?_
  refine sq.e ?_
  refine AWp.condT rfl rfl ?_
  refine AWp.seq (AWp.rowV (l := _) pok ?_)
  refine sq.t (v := .bool true) rfl (CallsF.fn rfl (by kernel_rfl) rfl rfl) (fun hf => awake_spec (hld.keep hs)) hf rfl ?_
  intro n4 hn2 hf
  have hn := Nat.le_trans hn hn2
  refine sq.c (v := .bool true) rfl rfl rfl rfl ?_
  refine sq.e ?_
  refine AWp.ret ?_
  refine ⟨rfl, [.bool true], rfl, .bool true, rfl, hs, hn, ?_⟩
  rfl
 ·rw [c_lo]
  refine sq.t (v := .bool true) (wantT (g := 2) (d := 20) rfl rfl rfl) (CallsF.fn rfl (by kernel_rfl) rfl rfl) (fun hf => awake_spec (hld.keep hs)) hf rfl ?_
  intro n5 hn2 hf
  have hn := Nat.le_trans hn hn2
  refine sq.c (v := .bool false) (wantT (g := 2) (d := 20) rfl rfl rfl) rfl rfl rfl ?_
  refine sq.c (v := .bool false) rfl rfl rfl rfl ?_
  refine sq.e ?_
  refine AWp.condF rfl rfl ?_
  refine AWp.skip (AWp.seq (AWp.rowV (l := _) pok ?_))
  refine sq.k rfl (CallsF.fn rfl (by kernel_rfl) rfl rfl) (new_spec) ?_
  rintro _ h6 n7 ⟨bp, fp, gp, rfl, hb_bp, hb_fp, hb_gp, y_bp, y_fp, y_gp, ne_fp_gp⟩ s8 hn2 hf
  have z_fp := sub_none hs y_fp
  have z_gp := sub_none hs y_gp
  change Apt fp gp at ne_fp_gp
  have ne_bp_fp : Apt bp fp := by intro e; rw [e] at hb_bp; rw [hb_bp] at hb_fp; cases hb_fp
  have ne_bp_gp : Apt bp gp := by intro e; rw [e] at hb_bp; rw [hb_bp] at hb_gp; cases hb_gp
  have ok_fp : MOk ([] : FM) 0 := .nil
  have ok_gp : MOk ([] : SM) 0 := .nil
  refine sq.w ?_
  have hs := hs.trans s8
  have hn := Nat.le_trans hn hn2
  have hSp : SMIs h6 ([] : SM) ([] : SP) := SMIs.nil _
  refine sq.c (v := .pointer (some ⟨bp, 0, none⟩)) rfl rfl rfl rfl ?_
  refine sq.e (AWp.seq (AWp.seq (AWp.rowV (l := _) pok ?_)))
  refine sq.c (v := .int .i64 (0)) rfl rfl rfl rfl ?_
  refine sq.e (AWp.block ?_)
  have hlo := hz_lo c_lo
  have hb60 := hlo.1
  have hrl : rs.length = bs.length := hd.1
  refine AWp.loopV (fun d vs h10 n11 => ∃ (i : Int) (P : PSt) (Gp : SM), d = ((rs.length : Nat) - i + 1).toNat ∧ SubBut h h10 ([]) ∧ n ≤ n11 ∧ Free h10 n11 ∧ h10.get bp = some (.cells [.map (some fp), .map (some gp)] true ⟨69, 0, true⟩) ∧ h10.get fp = some (.map (mapE plV intV P.F) P.kf) ∧ h10.get gp = some (.map (mapE plV ownV Gp) P.kg) ∧ SMIs h10 Gp P.S ∧ MOk P.F P.kf ∧ MOk Gp P.kg ∧ (0 ≤ i) ∧ (i ≤ (rs.length : Nat)) ∧ (PInv i.toNat P) ∧ (P = runP st0 (bs.take i.toNat)) ∧ ∃ y9 : Nat → Value, vs = [.slice a (rs.length) cp, undef, (y9 2), .pointer (some ⟨bp, 0, none⟩), .int .i64 (i), (y9 5), (y9 6), (y9 7), (y9 8), (y9 9), (y9 10), (y9 11), (y9 12), (y9 13), (y9 14), (y9 15), (y9 16), (y9 17), .slice a (rs.length) cp, .bool false, .bool false, .bool true, .bool false, .bool false, undef, .pointer (some ⟨bp, 0, none⟩), (y9 26), (y9 27), (y9 28), (y9 29), (y9 30), (y9 31), (y9 32), (y9 33), (y9 34), (y9 35), (y9 36), (y9 37), (y9 38), (y9 39), (y9 40), (y9 41), (y9 42), (y9 43), (y9 44), (y9 45), (y9 46), (y9 47), (y9 48), (y9 49), (y9 50), (y9 51), (y9 52), (y9 53), (y9 54), (y9 55), (y9 56), (y9 57), (y9 58), (y9 59), (y9 60), (y9 61), (y9 62), (y9 63), (y9 64), (y9 65), (y9 66), (y9 67), (y9 68), (y9 69), (y9 70), (y9 71), (y9 72), (y9 73), (y9 74), (y9 75), (y9 76), (y9 77), (y9 78), (y9 79), (y9 80), (y9 81), (y9 82), (y9 83), (y9 84), (y9 85), (y9 86), (y9 87), (y9 88), (y9 89), (y9 90), (y9 91), (y9 92), (y9 93), (y9 94), (y9 95), (y9 96), (y9 97), (y9 98), (y9 99), (y9 100), (y9 101), (y9 102), (y9 103), (y9 104), (y9 105), (y9 106), (y9 107), (y9 108), (y9 109), (y9 110), (y9 111), (y9 112), (y9 113), (y9 114), (y9 115), (y9 116), (y9 117), (y9 118), (y9 119), (y9 120), (y9 121), (y9 122), (y9 123), (y9 124), (y9 125), (y9 126), (y9 127), (y9 128), (y9 129), (y9 130), (y9 131), (y9 132), (y9 133), (y9 134), (y9 135), (y9 136), (y9 137), (y9 138), (y9 139), (y9 140), (y9 141), (y9 142), (y9 143), (y9 144), (y9 145), (y9 146), (y9 147), (y9 148), (y9 149), (y9 150), (y9 151), (y9 152), (y9 153), (y9 154), (y9 155), (y9 156), (y9 157), (y9 158), (y9 159), (y9 160), (y9 161), (y9 162), (y9 163), (y9 164), (y9 165), (y9 166), (y9 167), (y9 168), (y9 169), (y9 170), (y9 171), (y9 172), (y9 173), (y9 174), (y9 175), (y9 176), (y9 177), (y9 178), (y9 179), (y9 180), (y9 181), (y9 182), (y9 183), (y9 184), (y9 185), (y9 186), (y9 187), (y9 188), (y9 189), (y9 190), (y9 191), (y9 192), (y9 193), (y9 194), (y9 195), (y9 196), (y9 197), (y9 198), (y9 199), (y9 200), (y9 201), (y9 202), (y9 203), (y9 204), (y9 205), (y9 206), (y9 207), (y9 208), (y9 209), (y9 210), (y9 211), (y9 212), (y9 213), (y9 214), (y9 215), (y9 216), (y9 217), (y9 218), (y9 219), (y9 220), (y9 221), (y9 222), (y9 223), (y9 224), (y9 225), (y9 226), (y9 227), (y9 228), (y9 229), (y9 230), (y9 231), (y9 232), (y9 233)]) (((rs.length : Nat) - (0 : Int) + 1).toNat) ⟨0, st0, [], rfl, hs, hn, hf, hb_bp, hb_fp, hb_gp, hSp, ok_fp, ok_gp, (by omega), (by omega), (PInv.zero), (rfl), getV [undef, undef, .bool false, undef, undef, undef, undef, undef, undef, undef, undef, undef, undef, undef, undef, undef, undef, undef, undef, undef, undef, undef, undef, undef, undef, undef, undef, undef, undef, undef, undef, undef, undef, undef, undef, undef, undef, undef, undef, undef, undef, undef, undef, undef, undef, undef, undef, undef, undef, undef, undef, undef, undef, undef, undef, undef, undef, undef, undef, undef, undef, undef, undef, undef, undef, undef, undef, undef, undef, undef, undef, undef, undef, undef, undef, undef, undef, undef, undef, undef, undef, undef, undef, undef, undef, undef, undef, undef, undef, undef, undef, undef, undef, undef, undef, undef, undef, undef, undef, undef, undef, undef, undef, undef, undef, undef, undef, undef, undef, undef, undef, undef, undef, undef, undef, undef, undef, undef, undef, undef, undef, undef, undef, undef, undef, undef, undef, undef, undef, undef, undef, undef, undef, undef, undef, undef, undef, undef, undef, undef, undef, undef, undef, undef, undef, undef, undef, undef, undef, undef, undef, undef, undef, undef, undef, undef, undef, undef, undef, undef, undef, undef, undef, undef, undef, undef, undef, undef, undef, undef, undef, undef, undef, undef, undef, undef, undef, undef, undef, undef, undef, undef, undef, undef, undef, undef, undef, undef, undef, undef, undef, undef, undef, undef, undef, undef, undef, undef, undef, undef, undef, undef, undef, undef, undef, undef, undef, undef, undef, undef, undef, undef, undef, undef, undef, undef, undef, undef, undef, undef, undef, undef, undef, undef, undef, undef, undef, undef, undef, undef, undef, undef, undef, undef], rfl⟩ ?_
  rintro d vs h10 n11 ⟨i, P, Gp, rfl, hs, hn, hf, hb_bp, hb_fp, hb_gp, hSp, okfp, okgp, hi0, hi1, hPi, hP, y9, rfl⟩
  have hi60 : i.toNat ≤ 100 := by omega
  refine AWp.seq (AWp.seq (AWp.rowV (l := _) pok ?_))
  refine sq.c (v := .int .i64 (i)) rfl rfl rfl rfl ?_
  refine sq.c (v := .slice a (rs.length) cp) rfl rfl rfl rfl ?_
  refine sq.c (v := .int .i64 (((rs.length : Nat) : Int))) rfl rfl (by kernel_rfl) rfl ?_
  refine sq.c (v := .bool (decide (i < (((rs.length : Nat) : Int))))) rfl rfl rfl rfl ?_
  refine sq.e ?_
  by_cases c5_3 : i < (((rs.length : Nat) : Int))
  ·rw [decide_eq_true c5_3]
   refine AWp.condT rfl rfl ?_
   refine AWp.skip (AWp.seq (AWp.block (AWp.seq (AWp.rowV (l := _) pok ?_))))
   refine sq.c (v := .pointer (some ⟨bp, 0, none⟩)) rfl rfl rfl rfl ?_
   refine sq.k rfl (CallsF.fn rfl (by kernel_rfl) rfl rfl) (copyOn (⟨hb_bp, hb_fp, hb_gp, okfp, okgp, hSp, ne_fp_gp⟩ : At _ P _ _ _ _ Gp)) ?_
   rintro _ h12 n13 ⟨bw, fw, gw, rfl, hb_bw, hb_fw, hb_gw, y_bw, y_fw, y_gw, ne_fw_gw⟩ s14 hn2 hf
   have e_fp_bw : Apt fp bw := got_apt hb_fp y_bw
   have e_gp_bw : Apt gp bw := got_apt hb_gp y_bw
   have e_fp_fw : Apt fp fw := got_apt hb_fp y_fw
   have e_gp_fw : Apt gp fw := got_apt hb_gp y_fw
   have e_fp_gw : Apt fp gw := got_apt hb_fp y_gw
   have e_gp_gw : Apt gp gw := got_apt hb_gp y_gw
   change Apt fw gw at ne_fw_gw
   have ne_bw_fw : Apt bw fw := by intro e; rw [e] at hb_bw; rw [hb_bw] at hb_fw; cases hb_fw
   have ne_bw_gw : Apt bw gw := by intro e; rw [e] at hb_bw; rw [hb_bw] at hb_gw; cases hb_gw
   refine sq.w ?_
   have hSp := hSp.keep (.of0 s14)
   have hb_bp := s14.sub _ _ hb_bp
   have hb_fp := s14.sub _ _ hb_fp
   have hb_gp := s14.sub _ _ hb_gp
   have hs := hs.trans s14
   have hn := Nat.le_trans hn hn2
   have hSw := hSp
   refine sq.c (v := .pointer (some ⟨bw, 0, none⟩)) rfl rfl rfl rfl ?_
   refine sq.e (AWp.seq (AWp.rowV (l := _) pok ?_))
   refine sq.c (v := .pointer (some ⟨bp, 0, none⟩)) rfl rfl rfl rfl ?_
   refine sq.c (v := .slice a (rs.length) cp) rfl rfl rfl rfl ?_
   refine sq.c (v := .int .i64 (i)) rfl rfl rfl rfl ?_
   have i21 : (0 : Int) ≤ (i : Int) := by omega
   obtain ⟨x22, hx_x22⟩ : ∃ x, (rs)[((i : Int)).toNat]? = some x := ⟨_, List.getElem?_eq_getElem (by omega)⟩
   obtain ⟨y_x22, hy_x22, hb_x22⟩ := hd.at hx_x22
   obtain ⟨t_x22, c_x22, e_x22, v_x22⟩ := x22
   obtain ⟨rfl, rfl, rfl, rs_x22, R_x22, D_x22⟩ := hb_x22
   obtain ⟨a_x22, c_x22, rfl⟩ := (show FRow encSer _ v_x22 rs_x22 from R_x22).slice
   obtain ⟨b15, o16, cs_b15, ow_b15, ci_b15, ie20, hb17, hc18, hr19⟩ := IsRow.at (P := Tryd.prog) (t := 22) (e := 31) (k := .i64) (by kernel_rfl) (by kernel_rfl) (hr.keep (.of0 hs)).is i21 hx_x22
   refine sq.c (v := .pointer (some ⟨b15, o16, none⟩)) rfl rfl ie20 rfl ?_
   refine sq.c (v := .agg #[.string (y_x22.ten), .string (y_x22.clu), .int .i64 (y_x22.epo), .slice a_x22 (rs_x22.length) c_x22]) rfl rfl (ldR (P := Tryd.prog) (t := 31) (k := 4) (xs := [.string (y_x22.ten), .string (y_x22.clu), .int .i64 (y_x22.epo), .slice a_x22 (rs_x22.length) c_x22]) (by kernel_rfl) (by kernel_rfl) hr19) rfl ?_
   have hsb := hlo.2 _ (List.mem_of_getElem? hy_x22)
   obtain ⟨R, hR⟩ : ∃ R, R = takeP P y_x22 := ⟨_, rfl⟩
   have hPi2 : PInv (i.toNat + 1) R.st := by rw [hR]; exact hPi.step hsb.2.2
   have hi61 : i.toNat + 1 ≤ 100 := by omega
   refine sq.k rfl (CallsF.fn rfl (by kernel_rfl) rfl rfl) (takeOn (⟨hb_bp, hb_fp, hb_gp, okfp, okgp, hSp, ne_fp_gp⟩ : At _ P _ _ _ _ Gp) y_x22 _ (R_x22.keep (.of0 hs)).is (D_x22.keep (.of0 hs)).is (hld.keep hs) hPi hi60 hsb hR) ?_
   rintro _ h23 n24 ⟨w_x, os_x, G_x, rfl, W_x, D_x, hf_x, hg_x, okF_x, okG_x, hS_x⟩ s25 hn2 hf
   obtain ⟨a_x, c_x, rfl⟩ := W_x.slice
   refine sq.w ?_
   have ours_s25 : Ours _ [fp, gp] := .cons hb_fp rfl (.cons hb_gp rfl (.nil _))
   have hSw := hSw.keep (.of s25 ours_s25)
   have hb_bp := s25.get2 (ne_bp_fp) (ne_bp_gp) hb_bp
   have hb_bw := s25.get2 (Ne.symm e_fp_bw) (Ne.symm e_gp_bw) hb_bw
   have hb_fw := s25.get2 (Ne.symm e_fp_fw) (Ne.symm e_gp_fw) hb_fw
   have hb_gw := s25.get2 (Ne.symm e_fp_gw) (Ne.symm e_gp_gw) hb_gw
   have hs := hs.fresh2 z_fp z_gp s25
   have hn := Nat.le_trans hn hn2
   have hSp := hS_x
   refine sq.c (v := .tuple #[.agg #[.string (R.kb.ten), .string (R.kb.clu), .int .i64 (R.kb.epo), .slice a_x (os_x.length) c_x, .int .i64 (R.bad), .bool (R.rose)], .int .i64 (R.e)]) rfl rfl rfl rfl ?_
   refine sq.c (v := .agg #[.string (R.kb.ten), .string (R.kb.clu), .int .i64 (R.kb.epo), .slice a_x (os_x.length) c_x, .int .i64 (R.bad), .bool (R.rose)]) rfl rfl rfl rfl ?_
   refine sq.c (v := .int .i64 (R.e)) rfl rfl rfl rfl ?_
   have e_bp_n24 : Apt bp n24 := hf.ne hb_bp
   have e_fp_n24 : Apt fp n24 := hf.ne hf_x
   have e_gp_n24 : Apt gp n24 := hf.ne hg_x
   have e_bw_n24 : Apt bw n24 := hf.ne hb_bw
   have e_fw_n24 : Apt fw n24 := hf.ne hb_fw
   have e_gw_n24 : Apt gw n24 := hf.ne hb_gw
   have z_n24 : h.get n24 = none := hf0 _ hn
   refine sq.op rfl rfl (Does.alloc (cs := [.string (⟨#[]⟩), .string (⟨#[]⟩), .int .i64 (0), .slice none (0) (0), .int .i64 (0), .bool false]) hf (z := .agg #[.string (⟨#[]⟩), .string (⟨#[]⟩), .int .i64 (0), .slice none (0) (0), .int .i64 (0), .bool false]) (by kernel_rfl) rfl) ?_
   rintro _ h27 n28 ⟨rfl, hb26⟩ s29 hn2 hf
   refine sq.w ?_
   have hSw := hSw.keep (.of0 s29)
   have hSp := hSp.keep (.of0 s29)
   have W_x := W_x.keep (.of0 s29)
   have D_x := D_x.keep (.of0 s29)
   have hb_bp := s29.sub _ _ hb_bp
   have hf_x := s29.sub _ _ hf_x
   have hg_x := s29.sub _ _ hg_x
   have hb_bw := s29.sub _ _ hb_bw
   have hb_fw := s29.sub _ _ hb_fw
   have hb_gw := s29.sub _ _ hb_gw
   have hs := hs.trans s29
   have hn := Nat.le_trans hn hn2
   refine sq.op rfl rfl (Does.store (k := 6) (xs := [.string (R.kb.ten), .string (R.kb.clu), .int .i64 (R.kb.epo), .slice a_x (os_x.length) c_x, .int .i64 (R.bad), .bool (R.rose)]) (cs' := [.string (R.kb.ten), .string (R.kb.clu), .int .i64 (R.kb.epo), .slice a_x (os_x.length) c_x, .int .i64 (R.bad), .bool (R.rose)]) hf (by kernel_rfl) rfl rfl rfl hb26 rfl rfl (Nat.le_of_ble_eq_true rfl) rfl) ?_
   rintro _ h31 n32 ⟨rfl, hb30⟩ s33 hn2 hf
   refine sq.w0 ?_
   have hSw := hSw.keep (.own s33 hb26 rfl)
   have hSp := hSp.keep (.own s33 hb26 rfl)
   have W_x := W_x.keep (.own s33 hb26 rfl)
   have D_x := D_x.keep (.own s33 hb26 rfl)
   have hb_bp := s33.get1 (e_bp_n24) hb_bp
   have hf_x := s33.get1 (e_fp_n24) hf_x
   have hg_x := s33.get1 (e_gp_n24) hg_x
   have hb_bw := s33.get1 (e_bw_n24) hb_bw
   have hb_fw := s33.get1 (e_fw_n24) hb_fw
   have hb_gw := s33.get1 (e_gw_n24) hb_gw
   have hs := hs.fresh z_n24 s33
   have hn := Nat.le_trans hn hn2
   refine sq.c (v := .int .i64 (R.e)) rfl rfl rfl rfl ?_
   refine sq.e (AWp.seq (AWp.rowV (l := _) pok ?_))
   refine sq.c (v := .pointer (some ⟨bw, 0, none⟩)) rfl rfl rfl rfl ?_
   refine sq.k rfl (CallsF.fn rfl (by kernel_rfl) rfl rfl) (fencesOn (⟨hb_bw, hb_fw, hb_gw, okfp, okgp, hSw, ne_fw_gw⟩ : At _ P _ _ _ _ Gp) hPi hi60) ?_
   rintro v_e h34 n35 R_e s36 hn2 hf
   obtain ⟨a_e, c_e, e_e⟩ := R_e.slice
   subst e_e
   change FRow encFen _ (.slice a_e (fencesV P.F).length c_e) (fencesV P.F) at R_e
   refine sq.w ?_
   have hSw := hSw.keep (.of0 s36)
   have hSp := hSp.keep (.of0 s36)
   have W_x := W_x.keep (.of0 s36)
   have D_x := D_x.keep (.of0 s36)
   have hb_bp := s36.sub _ _ hb_bp
   have hf_x := s36.sub _ _ hf_x
   have hg_x := s36.sub _ _ hg_x
   have hb_bw := s36.sub _ _ hb_bw
   have hb_fw := s36.sub _ _ hb_fw
   have hb_gw := s36.sub _ _ hb_gw
   have hb30 := s36.sub _ _ hb30
   have hs := hs.trans s36
   have hn := Nat.le_trans hn hn2
   refine sq.c (v := .slice a_e (fencesV P.F).length c_e) rfl rfl rfl rfl ?_
   refine sq.e (AWp.seq (AWp.seq (AWp.rowV (l := _) pok ?_)))
   refine sq.c (v := .int .i64 (0)) rfl rfl rfl rfl ?_
   refine sq.e (AWp.block ?_)
   refine AWp.loopV (fun d vs h38 n39 => ∃ (k : Int), d = (((fencesV P.F).length : Nat) - k + 1).toNat ∧ SubBut h h38 ([]) ∧ n ≤ n39 ∧ Free h38 n39 ∧ h38.get bp = some (.cells [.map (some fp), .map (some gp)] true ⟨69, 0, true⟩) ∧ h38.get fp = some (.map (mapE plV intV R.F) R.kf) ∧ h38.get gp = some (.map (mapE plV ownV G_x) R.kg) ∧ h38.get bw = some (.cells [.map (some fw), .map (some gw)] true ⟨69, 0, true⟩) ∧ h38.get fw = some (.map (mapE plV intV P.F) P.kf) ∧ h38.get gw = some (.map (mapE plV ownV Gp) P.kg) ∧ SMIs h38 Gp P.S ∧ SMIs h38 G_x R.S ∧ FRow encSer h38 (.slice a_x (os_x.length) c_x) (os_x) ∧ FSers h38 os_x R.kb.ser ∧ h38.get n24 = some (.cells [.string (R.kb.ten), .string (R.kb.clu), .int .i64 (R.kb.epo), .slice a_x (os_x.length) c_x, .int .i64 (R.bad), .bool (R.rose)] true ⟨33, 0, true⟩) ∧ FRow encFen h38 (.slice a_e (fencesV P.F).length c_e) ((fencesV P.F)) ∧ (0 ≤ k) ∧ (k ≤ ((fencesV P.F).length : Nat)) ∧ ∃ y37 : Nat → Value, vs = [.slice a (rs.length) cp, undef, (y37 2), .pointer (some ⟨bp, 0, none⟩), .int .i64 (i), .pointer (some ⟨bw, 0, none⟩), .pointer (some ⟨n24, 0, none⟩), .int .i64 (R.e), .slice a_e (fencesV P.F).length c_e, .int .i64 (k), (y9 10), (y9 11), (y9 12), (y9 13), (y9 14), (y9 15), (y9 16), (y9 17), .slice a (rs.length) cp, .bool false, .bool false, .bool true, .bool false, .bool false, undef, .pointer (some ⟨bp, 0, none⟩), .int .i64 (i), .slice a (rs.length) cp, .int .i64 (((rs.length : Nat) : Int)), .bool true, (y9 30), (y9 31), .pointer (some ⟨bp, 0, none⟩), .pointer (some ⟨bw, 0, none⟩), .tuple #[.agg #[.string (R.kb.ten), .string (R.kb.clu), .int .i64 (R.kb.epo), .slice a_x (os_x.length) c_x, .int .i64 (R.bad), .bool (R.rose)], .int .i64 (R.e)], .pointer (some ⟨bp, 0, none⟩), .slice a (rs.length) cp, .int .i64 (i), .pointer (some ⟨b15, o16, none⟩), .agg #[.string (y_x22.ten), .string (y_x22.clu), .int .i64 (y_x22.epo), .slice a_x22 (rs_x22.length) c_x22], .tuple #[.agg #[.string (R.kb.ten), .string (R.kb.clu), .int .i64 (R.kb.epo), .slice a_x (os_x.length) c_x, .int .i64 (R.bad), .bool (R.rose)], .int .i64 (R.e)], .agg #[.string (R.kb.ten), .string (R.kb.clu), .int .i64 (R.kb.epo), .slice a_x (os_x.length) c_x, .int .i64 (R.bad), .bool (R.rose)], .int .i64 (R.e), .pointer (some ⟨bw, 0, none⟩), .slice a_e (fencesV P.F).length c_e, (y37 45), (y37 46), (y37 47), (y37 48), (y37 49), (y37 50), (y37 51), (y37 52), (y37 53), (y37 54), (y37 55), (y37 56), (y37 57), (y37 58), (y37 59), (y37 60), (y37 61), (y37 62), (y37 63), (y37 64), (y37 65), (y37 66), (y37 67), (y37 68), (y9 69), (y9 70), (y9 71), (y9 72), (y9 73), (y9 74), (y9 75), (y9 76), (y9 77), (y9 78), (y9 79), (y9 80), (y9 81), (y9 82), (y9 83), (y9 84), (y9 85), (y9 86), (y9 87), (y9 88), (y9 89), (y9 90), (y9 91), (y9 92), (y9 93), (y9 94), (y9 95), (y9 96), (y9 97), (y9 98), (y9 99), (y9 100), (y9 101), (y9 102), (y9 103), (y9 104), (y9 105), (y9 106), (y9 107), (y9 108), (y9 109), (y9 110), (y9 111), (y9 112), (y9 113), (y9 114), (y9 115), (y9 116), (y9 117), (y9 118), (y9 119), (y9 120), (y9 121), (y9 122), (y9 123), (y9 124), (y9 125), (y9 126), (y9 127), (y9 128), (y9 129), (y9 130), (y9 131), (y9 132), (y9 133), (y9 134), (y9 135), (y9 136), (y9 137), (y9 138), (y9 139), (y9 140), (y9 141), (y9 142), (y9 143), (y9 144), (y9 145), (y9 146), (y9 147), (y9 148), (y9 149), (y9 150), (y9 151), (y9 152), (y9 153), (y9 154), (y9 155), (y9 156), (y9 157), (y9 158), (y9 159), (y9 160), (y9 161), (y9 162), (y9 163), (y9 164), (y9 165), (y9 166), (y9 167), (y9 168), (y9 169), (y9 170), (y9 171), (y9 172), (y9 173), (y9 174), (y9 175), (y9 176), (y9 177), (y9 178), (y9 179), (y9 180), (y9 181), (y9 182), (y9 183), (y9 184), (y9 185), (y9 186), (y9 187), (y9 188), (y9 189), (y9 190), (y9 191), (y9 192), (y9 193), (y9 194), (y9 195), (y9 196), (y9 197), (y9 198), (y9 199), (y9 200), (y9 201), (y9 202), (y9 203), (y9 204), (y9 205), (y9 206), (y9 207), (y9 208), (y9 209), (y9 210), (y9 211), (y9 212), (y9 213), (y9 214), (y9 215), (y9 216), (y9 217), (y9 218), (y9 219), (y9 220), (y9 221), (y9 222), (y9 223), (y9 224), (y9 225), (y9 226), (y9 227), (y9 228), (y9 229), (y9 230), (y9 231), (y9 232), (y9 233)]) ((((fencesV P.F).length : Nat) - (0 : Int) + 1).toNat) ⟨0, rfl, hs, hn, hf, hb_bp, hf_x, hg_x, hb_bw, hb_fw, hb_gw, hSw, hSp, W_x, D_x, hb30, R_e, (by omega), (by omega), getV [undef, undef, (y9 2), undef, undef, undef, undef, undef, undef, undef, undef, undef, undef, undef, undef, undef, undef, undef, undef, undef, undef, undef, undef, undef, undef, undef, undef, undef, undef, undef, undef, undef, undef, undef, undef, undef, undef, undef, undef, undef, undef, undef, undef, undef, undef, (y9 45), (y9 46), (y9 47), (y9 48), (y9 49), (y9 50), (y9 51), (y9 52), (y9 53), (y9 54), (y9 55), (y9 56), (y9 57), (y9 58), (y9 59), (y9 60), (y9 61), (y9 62), (y9 63), (y9 64), (y9 65), (y9 66), (y9 67), (y9 68)], rfl⟩ ?_
   rintro d vs h38 n39 ⟨k, rfl, hs, hn, hf, hb_bp, hf_x, hg_x, hb_bw, hb_fw, hb_gw, hSw, hSp, W_x, D_x, hb30, R_e, hk0, hk1, y37, rfl⟩
   have hfl := fencesV_len P.F
   have hfl2 := hPi.lenF
   refine AWp.seq (AWp.seq (AWp.rowV (l := _) pok ?_))
   refine sq.c (v := .int .i64 (k)) rfl rfl rfl rfl ?_
   refine sq.c (v := .slice a_e (fencesV P.F).length c_e) rfl rfl rfl rfl ?_
   refine sq.c (v := .int .i64 ((((fencesV P.F).length : Nat) : Int))) rfl rfl (by kernel_rfl) rfl ?_
   refine sq.c (v := .bool (decide (k < ((((fencesV P.F).length : Nat) : Int))))) rfl rfl rfl rfl ?_
   refine sq.e ?_
   by_cases c11_3 : k < ((((fencesV P.F).length : Nat) : Int))
   ·rw [decide_eq_true c11_3]
    refine AWp.condT rfl rfl ?_
    refine AWp.skip (AWp.seq (AWp.block (AWp.seq ?_)))
    refine AWp.anyK pok [0, 1, 2, 3, 4, 5, 6, 7, 8, 9, 10, 12, 13, 14, 15, 16, 11, 17] (by kernel_rfl) (by kernel_rfl) rfl (fun x fr fr' h n hd _ q => ⟨hd ▸ q.1, q.2⟩) ?_
    refine dk.c (v := .pointer (some ⟨bp, 0, none⟩)) rfl (by kernel_rfl) rfl rfl rfl rfl ?_
    refine dk.c (v := .slice a_e (fencesV P.F).length c_e) rfl (by kernel_rfl) rfl rfl rfl rfl ?_
    refine dk.c (v := .int .i64 (k)) rfl (by kernel_rfl) rfl rfl rfl rfl ?_
    have i46 : (0 : Int) ≤ (k : Int) := by omega
    obtain ⟨x47, hx_x47⟩ : ∃ x, ((fencesV P.F))[((k : Int)).toNat]? = some x := ⟨_, List.getElem?_eq_getElem (by omega)⟩
    obtain ⟨b40, o41, cs_b40, ow_b40, ci_b40, ie45, hb42, hc43, hr44⟩ := IsRow.at (P := Tryd.prog) (t := 27) (e := 56) (k := .i64) (by kernel_rfl) (by kernel_rfl) R_e.is i46 hx_x47
    refine dk.c (v := .pointer (some ⟨b40, o41, none⟩)) rfl (by kernel_rfl) rfl rfl ie45 rfl ?_
    refine dk.c (v := .pointer (some ⟨b40, o41, none⟩)) rfl (by kernel_rfl) rfl rfl (by kernel_rfl) rfl ?_
    refine dk.gB (v := .string (x47.1)) b40 rfl (by kernel_rfl) rfl rfl (fun _ q_ => (ld1 (P := Tryd.prog) (t := 9) (p := o41 + 0) (v := .string (x47.1)) (by kernel_rfl) (by kernel_rfl) (q_ _ hb42) (hc43 0 _ rfl))) rfl ?_
    refine dk.c (v := .slice a_e (fencesV P.F).length c_e) rfl (by kernel_rfl) rfl rfl rfl rfl ?_
    refine dk.c (v := .int .i64 (k)) rfl (by kernel_rfl) rfl rfl rfl rfl ?_
    have i54 : (0 : Int) ≤ (k : Int) := by omega
    obtain ⟨b48, o49, cs_b48, ow_b48, ci_b48, ie53, hb50, hc51, hr52⟩ := IsRow.at (P := Tryd.prog) (t := 27) (e := 56) (k := .i64) (by kernel_rfl) (by kernel_rfl) R_e.is i54 hx_x47
    refine dk.c (v := .pointer (some ⟨b48, o49, none⟩)) rfl (by kernel_rfl) rfl rfl ie53 rfl ?_
    refine dk.c (v := .pointer (some ⟨b48, o49 + 1, none⟩)) rfl (by kernel_rfl) rfl rfl (by kernel_rfl) rfl ?_
    refine dk.gB (v := .string (x47.2.1)) b48 rfl (by kernel_rfl) rfl rfl (fun _ q_ => (ld1 (P := Tryd.prog) (t := 9) (p := o49 + 1) (v := .string (x47.2.1)) (by kernel_rfl) (by kernel_rfl) (q_ _ hb50) (hc51 1 _ rfl))) rfl ?_
    refine dk.c (v := .slice a_e (fencesV P.F).length c_e) rfl (by kernel_rfl) rfl rfl rfl rfl ?_
    refine dk.c (v := .int .i64 (k)) rfl (by kernel_rfl) rfl rfl rfl rfl ?_
    have i61 : (0 : Int) ≤ (k : Int) := by omega
    obtain ⟨b55, o56, cs_b55, ow_b55, ci_b55, ie60, hb57, hc58, hr59⟩ := IsRow.at (P := Tryd.prog) (t := 27) (e := 56) (k := .i64) (by kernel_rfl) (by kernel_rfl) R_e.is i61 hx_x47
    refine dk.c (v := .pointer (some ⟨b55, o56, none⟩)) rfl (by kernel_rfl) rfl rfl ie60 rfl ?_
    refine dk.c (v := .pointer (some ⟨b55, o56 + 2, none⟩)) rfl (by kernel_rfl) rfl rfl (by kernel_rfl) rfl ?_
    refine dk.gB (v := .int .i64 (x47.2.2)) b55 rfl (by kernel_rfl) rfl rfl (fun _ q_ => (ld1 (P := Tryd.prog) (t := 2) (p := o56 + 2) (v := .int .i64 (x47.2.2)) (by kernel_rfl) (by kernel_rfl) (q_ _ hb57) (hc58 2 _ rfl))) rfl ?_
    refine dk.t (v := .int .i64 (((mget R.F (x47.1, x47.2.1)).getD 0))) rfl (by kernel_rfl) rfl (CallsF.fn rfl (by kernel_rfl) rfl rfl) (fun hf => fenceOn (⟨hb_bp, hf_x, hg_x, okF_x, okG_x, hSp, ne_fp_gp⟩ : At _ R.st _ _ _ _ G_x) x47.1 x47.2.1) hf rfl ?_
    intro n62 hn2 hf
    have hn := Nat.le_trans hn hn2
    refine dk.c (v := .bool (decide ((((mget R.F (x47.1, x47.2.1)).getD 0)) < x47.2.2))) rfl (by kernel_rfl) rfl rfl rfl rfl ?_
    refine dk.e ?_
    by_cases c13_17 : (((mget R.F (x47.1, x47.2.1)).getD 0)) < x47.2.2
    ·exfalso
     have hu1 := fences_at (List.mem_of_getElem? hx_x47)
     have hu2 := fence_up P y_x22 (x47.1, x47.2.1)
     rw [← hR] at hu2
     omega
    ·rw [decide_eq_false c13_17]
     refine AWp.condF rfl rfl ?_
     refine AWp.skip (AWp.rowV (l := _) pok ?_)
     refine sq.c (v := .int .i64 (k)) rfl rfl rfl rfl ?_
     refine sq.c (v := .int .i64 (k + 1)) rfl rfl (okI (wrap_i64 (by omega) (by omega))) rfl ?_
     refine sq.c (v := .int .i64 (k + 1)) rfl rfl rfl rfl ?_
     refine sq.e ?_
     refine ⟨_, _, rfl, (by omega), k + 1, rfl, hs, hn, hf, hb_bp, hf_x, hg_x, hb_bw, hb_fw, hb_gw, hSw, hSp, W_x, D_x, hb30, R_e, (by omega), (by omega), getV [undef, undef, (y37 2), undef, undef, undef, undef, undef, undef, undef, undef, undef, undef, undef, undef, undef, undef, undef, undef, undef, undef, undef, undef, undef, undef, undef, undef, undef, undef, undef, undef, undef, undef, undef, undef, undef, undef, undef, undef, undef, undef, undef, undef, undef, undef, .int .i64 (k), .slice a_e (fencesV P.F).length c_e, .int .i64 ((((fencesV P.F).length : Nat) : Int)), .bool true, .int .i64 (k), .int .i64 (k + 1), .pointer (some ⟨bp, 0, none⟩), .slice a_e (fencesV P.F).length c_e, .int .i64 (k), .pointer (some ⟨b40, o41, none⟩), .pointer (some ⟨b40, o41, none⟩), .string (x47.1), .slice a_e (fencesV P.F).length c_e, .int .i64 (k), .pointer (some ⟨b48, o49, none⟩), .pointer (some ⟨b48, o49 + 1, none⟩), .string (x47.2.1), .int .i64 (((mget R.F (x47.1, x47.2.1)).getD 0)), .slice a_e (fencesV P.F).length c_e, .int .i64 (k), .pointer (some ⟨b55, o56, none⟩), .pointer (some ⟨b55, o56 + 2, none⟩), .int .i64 (x47.2.2), .bool false], rfl⟩
   ·rw [decide_eq_false c11_3]
    refine AWp.condF rfl rfl ?_
    refine AWp.exit ?_
    refine AWp.seq ?_
    refine AWp.seqJ (fun vs h64 n65 => SubBut h h64 ([]) ∧ n ≤ n65 ∧ Free h64 n65 ∧ h64.get bp = some (.cells [.map (some fp), .map (some gp)] true ⟨69, 0, true⟩) ∧ h64.get fp = some (.map (mapE plV intV R.F) R.kf) ∧ h64.get gp = some (.map (mapE plV ownV G_x) R.kg) ∧ h64.get bw = some (.cells [.map (some fw), .map (some gw)] true ⟨69, 0, true⟩) ∧ h64.get fw = some (.map (mapE plV intV P.F) P.kf) ∧ h64.get gw = some (.map (mapE plV ownV Gp) P.kg) ∧ SMIs h64 Gp P.S ∧ SMIs h64 G_x R.S ∧ FRow encSer h64 (.slice a_x (os_x.length) c_x) (os_x) ∧ FSers h64 os_x R.kb.ser ∧ h64.get n24 = some (.cells [.string (R.kb.ten), .string (R.kb.clu), .int .i64 (R.kb.epo), .slice a_x (os_x.length) c_x, .int .i64 (R.bad), .bool (R.rose)] true ⟨33, 0, true⟩) ∧ FRow encFen h64 (.slice a_e (fencesV P.F).length c_e) ((fencesV P.F)) ∧ ∃ y63 : Nat → Value, vs = [.slice a (rs.length) cp, undef, (y37 2), .pointer (some ⟨bp, 0, none⟩), .int .i64 (i), .pointer (some ⟨bw, 0, none⟩), .pointer (some ⟨n24, 0, none⟩), .int .i64 (R.e), .slice a_e (fencesV P.F).length c_e, .int .i64 (k), (y9 10), (y9 11), (y9 12), (y9 13), (y9 14), (y9 15), (y9 16), (y9 17), .slice a (rs.length) cp, .bool false, .bool false, .bool true, .bool false, .bool false, undef, .pointer (some ⟨bp, 0, none⟩), .int .i64 (i), .slice a (rs.length) cp, .int .i64 (((rs.length : Nat) : Int)), .bool true, (y9 30), (y9 31), .pointer (some ⟨bp, 0, none⟩), .pointer (some ⟨bw, 0, none⟩), .tuple #[.agg #[.string (R.kb.ten), .string (R.kb.clu), .int .i64 (R.kb.epo), .slice a_x (os_x.length) c_x, .int .i64 (R.bad), .bool (R.rose)], .int .i64 (R.e)], .pointer (some ⟨bp, 0, none⟩), .slice a (rs.length) cp, .int .i64 (i), .pointer (some ⟨b15, o16, none⟩), .agg #[.string (y_x22.ten), .string (y_x22.clu), .int .i64 (y_x22.epo), .slice a_x22 (rs_x22.length) c_x22], .tuple #[.agg #[.string (R.kb.ten), .string (R.kb.clu), .int .i64 (R.kb.epo), .slice a_x (os_x.length) c_x, .int .i64 (R.bad), .bool (R.rose)], .int .i64 (R.e)], .agg #[.string (R.kb.ten), .string (R.kb.clu), .int .i64 (R.kb.epo), .slice a_x (os_x.length) c_x, .int .i64 (R.bad), .bool (R.rose)], .int .i64 (R.e), .pointer (some ⟨bw, 0, none⟩), .slice a_e (fencesV P.F).length c_e, .int .i64 (k), .slice a_e (fencesV P.F).length c_e, .int .i64 ((((fencesV P.F).length : Nat) : Int)), .bool false, (y37 49), (y37 50), (y37 51), (y37 52), (y37 53), (y37 54), (y37 55), (y37 56), (y37 57), (y37 58), (y37 59), (y37 60), (y37 61), (y37 62), (y37 63), (y37 64), (y37 65), (y37 66), (y37 67), (y37 68), (y63 69), (y63 70), (y63 71), (y63 72), (y63 73), (y63 74), (y63 75), (y63 76), (y63 77), (y63 78), (y63 79), (y63 80), (y63 81), (y63 82), (y63 83), (y63 84), (y63 85), (y63 86), (y63 87), (y63 88), (y63 89), (y63 90), (y63 91), (y63 92), (y63 93), (y63 94), (y63 95), (y63 96), (y63 97), (y63 98), (y63 99), (y63 100), (y63 101), (y63 102), (y63 103), (y63 104), (y63 105), (y63 106), (y63 107), (y63 108), (y63 109), (y63 110), (y63 111), (y63 112), (y63 113), (y63 114), (y63 115), (y63 116), (y63 117), (y63 118), (y63 119), (y63 120), (y63 121), (y63 122), (y63 123), (y63 124), (y63 125), (y63 126), (y63 127), (y63 128), (y63 129), (y63 130), (y63 131), (y63 132), .bool false, (y9 134), (y9 135), (y9 136), (y9 137), (y9 138), (y9 139), (y9 140), (y9 141), (y9 142), (y9 143), (y9 144), (y9 145), (y9 146), (y9 147), (y9 148), (y9 149), (y9 150), (y9 151), (y9 152), (y9 153), (y9 154), (y9 155), (y9 156), (y9 157), (y9 158), (y9 159), (y9 160), (y9 161), (y9 162), (y9 163), (y9 164), (y9 165), (y9 166), (y9 167), (y9 168), (y9 169), (y9 170), (y9 171), (y9 172), (y9 173), (y9 174), (y9 175), (y9 176), (y9 177), (y9 178), (y9 179), (y9 180), (y9 181), (y9 182), (y9 183), (y9 184), (y9 185), (y9 186), (y9 187), (y9 188), (y9 189), (y9 190), (y9 191), (y9 192), (y9 193), (y9 194), (y9 195), (y9 196), (y9 197), (y9 198), (y9 199), (y9 200), (y9 201), (y9 202), (y9 203), (y9 204), (y9 205), (y9 206), (y9 207), (y9 208), (y9 209), (y9 210), (y9 211), (y9 212), (y9 213), (y9 214), (y9 215), (y9 216), (y9 217), (y9 218), (y9 219), (y9 220), (y9 221), (y9 222), (y9 223), (y9 224), (y9 225), (y9 226), (y9 227), (y9 228), (y9 229), (y9 230), (y9 231), (y9 232), (y9 233)]) ?_ ?_
    ·skip
     refine AWp.anyK pok [0, 1, 2, 3, 4, 5, 6, 7, 8, 9, 10, 11, 12, 13, 14, 15, 16, 17, 18, 19, 20, 21, 22, 23, 24, 25, 26, 27, 28, 29, 30, 31, 32, 33, 34, 35, 36, 37, 38, 39, 40, 41, 42, 43, 44, 45, 46, 47, 48, 49, 50, 51, 52, 53, 54, 55, 57, 58, 59, 60, 61, 56, 62, 63, 64] (by kernel_rfl) (by kernel_rfl) rfl (fun x fr fr' h n hd _ q => ⟨hd ▸ q.1, q.2⟩) ?_
     refine dk.c (v := .slice a (rs.length) cp) rfl (by kernel_rfl) rfl rfl rfl rfl ?_
     refine dk.c (v := .int .i64 (i)) rfl (by kernel_rfl) rfl rfl rfl rfl ?_
     have i72 : (0 : Int) ≤ (i : Int) := by omega
     obtain ⟨b66, o67, cs_b66, ow_b66, ci_b66, ie71, hb68, hc69, hr70⟩ := IsRow.at (P := Tryd.prog) (t := 22) (e := 31) (k := .i64) (by kernel_rfl) (by kernel_rfl) (hr.keep (.of0 hs)).is i72 hx_x22
     refine dk.c (v := .pointer (some ⟨b66, o67, none⟩)) rfl (by kernel_rfl) rfl rfl ie71 rfl ?_
     refine dk.c (v := .pointer (some ⟨b66, o67 + 1, none⟩)) rfl (by kernel_rfl) rfl rfl (by kernel_rfl) rfl ?_
     refine dk.gB (v := .string (y_x22.clu)) b66 rfl (by kernel_rfl) rfl rfl (fun _ q_ => (ld1 (P := Tryd.prog) (t := 9) (p := o67 + 1) (v := .string (y_x22.clu)) (by kernel_rfl) (by kernel_rfl) (q_ _ hb68) (hc69 1 _ rfl))) rfl ?_
     refine dk.c (v := .bool (!decide (y_x22.clu = (⟨#[]⟩ : ByteArray)))) rfl (by kernel_rfl) rfl rfl (neD _ _) rfl ?_
     refine dk.c (v := .bool (!decide (y_x22.clu = (⟨#[]⟩ : ByteArray)))) rfl (by kernel_rfl) rfl rfl rfl rfl ?_
     by_cases c15_5 : y_x22.clu = (⟨#[]⟩ : ByteArray)
     ·rw [decide_eq_true c15_5]
      refine dk.s rfl (wantF (g := 6) (d := 75) rfl rfl rfl) rfl ?_
      refine dk.s rfl (wantF (g := 6) (d := 75) rfl rfl rfl) rfl ?_
      refine dk.c (v := .bool false) rfl (by kernel_rfl) rfl rfl rfl rfl ?_
      refine dk.c (v := .bool false) rfl (by kernel_rfl) rfl rfl rfl rfl ?_
      refine dk.s rfl (wantF (g := 10) (d := 79) rfl rfl rfl) rfl ?_
      refine dk.s rfl (wantF (g := 10) (d := 79) rfl rfl rfl) rfl ?_
      refine dk.s rfl (wantF (g := 10) (d := 79) rfl rfl rfl) rfl ?_
      refine dk.s rfl (wantF (g := 10) (d := 79) rfl rfl rfl) rfl ?_
      refine dk.s rfl (wantF (g := 10) (d := 79) rfl rfl rfl) rfl ?_
      refine dk.s rfl (wantF (g := 10) (d := 79) rfl rfl rfl) rfl ?_
      refine dk.s rfl (wantF (g := 10) (d := 79) rfl rfl rfl) rfl ?_
      refine dk.s rfl (wantF (g := 10) (d := 79) rfl rfl rfl) rfl ?_
      refine dk.s rfl (wantF (g := 10) (d := 79) rfl rfl rfl) rfl ?_
      refine dk.s rfl (wantF (g := 10) (d := 79) rfl rfl rfl) rfl ?_
      refine dk.s rfl (wantF (g := 10) (d := 79) rfl rfl rfl) rfl ?_
      refine dk.s rfl (wantF (g := 10) (d := 79) rfl rfl rfl) rfl ?_
      refine dk.s rfl (wantF (g := 10) (d := 79) rfl rfl rfl) rfl ?_
      refine dk.s rfl (wantF (g := 10) (d := 79) rfl rfl rfl) rfl ?_
      refine dk.s rfl (wantF (g := 10) (d := 79) rfl rfl rfl) rfl ?_
      refine dk.s rfl (wantF (g := 10) (d := 79) rfl rfl rfl) rfl ?_
      refine dk.s rfl (wantF (g := 10) (d := 79) rfl rfl rfl) rfl ?_
      refine dk.s rfl (wantF (g := 10) (d := 79) rfl rfl rfl) rfl ?_
      refine dk.s rfl (wantF (g := 10) (d := 79) rfl rfl rfl) rfl ?_
      refine dk.s rfl (wantF (g := 10) (d := 79) rfl rfl rfl) rfl ?_
      refine dk.s rfl (wantF (g := 10) (d := 79) rfl rfl rfl) rfl ?_
      refine dk.c (v := .bool false) rfl (by kernel_rfl) rfl rfl rfl rfl ?_
      refine dk.c (v := .bool false) rfl (by kernel_rfl) rfl rfl rfl rfl ?_
      refine dk.c (v := .int .i64 (R.e)) rfl (by kernel_rfl) (wantT (g := 33) (d := 102) rfl rfl rfl) rfl rfl rfl ?_
      refine dk.c (v := .bool (decide (R.e = (0 : Int)))) rfl (by kernel_rfl) (wantT (g := 33) (d := 102) rfl rfl rfl) rfl rfl rfl ?_
      refine dk.c (v := .bool (decide (R.e = (0 : Int)))) rfl (by kernel_rfl) (wantT (g := 33) (d := 102) rfl rfl rfl) rfl rfl rfl ?_
      by_cases c15_35 : R.e = (0 : Int)
      ·rw [decide_eq_true c15_35]
       refine dk.c (v := .slice a (rs.length) cp) rfl (by kernel_rfl) (wantT (g := 36) (d := 105) rfl rfl rfl) rfl rfl rfl ?_
       refine dk.c (v := .int .i64 (i)) rfl (by kernel_rfl) (wantT (g := 36) (d := 105) rfl rfl rfl) rfl rfl rfl ?_
       have i79 : (0 : Int) ≤ (i : Int) := by omega
       obtain ⟨b73, o74, cs_b73, ow_b73, ci_b73, ie78, hb75, hc76, hr77⟩ := IsRow.at (P := Tryd.prog) (t := 22) (e := 31) (k := .i64) (by kernel_rfl) (by kernel_rfl) (hr.keep (.of0 hs)).is i79 hx_x22
       refine dk.c (v := .pointer (some ⟨b73, o74, none⟩)) rfl (by kernel_rfl) (wantT (g := 36) (d := 105) rfl rfl rfl) rfl ie78 rfl ?_
       refine dk.c (v := .pointer (some ⟨b73, o74 + 1, none⟩)) rfl (by kernel_rfl) (wantT (g := 36) (d := 105) rfl rfl rfl) rfl (by kernel_rfl) rfl ?_
       refine dk.gB (v := .string (y_x22.clu)) b73 rfl (by kernel_rfl) (wantT (g := 36) (d := 105) rfl rfl rfl) rfl (fun _ q_ => (ld1 (P := Tryd.prog) (t := 9) (p := o74 + 1) (v := .string (y_x22.clu)) (by kernel_rfl) (by kernel_rfl) (q_ _ hb75) (hc76 1 _ rfl))) rfl ?_
       refine dk.c (v := .bool (!decide (y_x22.clu = (⟨#[]⟩ : ByteArray)))) rfl (by kernel_rfl) (wantT (g := 36) (d := 105) rfl rfl rfl) rfl (neD _ _) rfl ?_
       refine dk.c (v := .bool (!decide (y_x22.clu = (⟨#[]⟩ : ByteArray)))) rfl (by kernel_rfl) (wantT (g := 33) (d := 102) rfl rfl rfl) rfl rfl rfl ?_
       refine dk.c (v := .bool (!decide (y_x22.clu = (⟨#[]⟩ : ByteArray)))) rfl (by kernel_rfl) (wantT (g := 33) (d := 102) rfl rfl rfl) rfl rfl rfl ?_
       by_cases c15_42 : y_x22.clu = (⟨#[]⟩ : ByteArray)
       ·rw [decide_eq_true c15_42]
        refine dk.s rfl (wantF (g := 44) (d := 113) rfl rfl rfl) rfl ?_
        refine dk.s rfl (wantF (g := 44) (d := 113) rfl rfl rfl) rfl ?_
        refine dk.s rfl (wantF (g := 44) (d := 113) rfl rfl rfl) rfl ?_
        refine dk.s rfl (wantF (g := 44) (d := 113) rfl rfl rfl) rfl ?_
        refine dk.s rfl (wantF (g := 44) (d := 113) rfl rfl rfl) rfl ?_
        refine dk.s rfl (wantF (g := 44) (d := 113) rfl rfl rfl) rfl ?_
        refine dk.s rfl (wantF (g := 44) (d := 113) rfl rfl rfl) rfl ?_
        refine dk.s rfl (wantF (g := 44) (d := 113) rfl rfl rfl) rfl ?_
        refine dk.s rfl (wantF (g := 44) (d := 113) rfl rfl rfl) rfl ?_
        refine dk.s rfl (wantF (g := 44) (d := 113) rfl rfl rfl) rfl ?_
        refine dk.s rfl (wantF (g := 44) (d := 113) rfl rfl rfl) rfl ?_
        refine dk.s rfl (wantF (g := 44) (d := 113) rfl rfl rfl) rfl ?_
        refine dk.s rfl (wantF (g := 44) (d := 113) rfl rfl rfl) rfl ?_
        refine dk.s rfl (wantF (g := 44) (d := 113) rfl rfl rfl) rfl ?_
        refine dk.s rfl (wantF (g := 44) (d := 113) rfl rfl rfl) rfl ?_
        refine dk.s rfl (wantF (g := 44) (d := 113) rfl rfl rfl) rfl ?_
        refine dk.s rfl (wantF (g := 44) (d := 113) rfl rfl rfl) rfl ?_
        refine dk.s rfl (wantF (g := 44) (d := 113) rfl rfl rfl) rfl ?_
        refine dk.c (v := .bool false) rfl (by kernel_rfl) (wantT (g := 33) (d := 102) rfl rfl rfl) rfl rfl rfl ?_
        refine dk.c (v := .bool false) rfl (by kernel_rfl) rfl rfl rfl rfl ?_
        refine dk.e ?_
        refine ⟨_, rfl, hs, hn, hf, hb_bp, hf_x, hg_x, hb_bw, hb_fw, hb_gw, hSw, hSp, W_x, D_x, hb30, R_e, getV [undef, undef, undef, undef, undef, undef, undef, undef, undef, undef, undef, undef, undef, undef, undef, undef, undef, undef, undef, undef, undef, undef, undef, undef, undef, undef, undef, undef, undef, undef, undef, undef, undef, undef, undef, undef, undef, undef, undef, undef, undef, undef, undef, undef, undef, undef, undef, undef, undef, undef, undef, undef, undef, undef, undef, undef, undef, undef, undef, undef, undef, undef, undef, undef, undef, undef, undef, undef, undef, .slice a (rs.length) cp, .int .i64 (i), .pointer (some ⟨b66, o67, none⟩), .pointer (some ⟨b66, o67 + 1, none⟩), .string (y_x22.clu), .bool false, .bool false, undef, undef, .bool false, .bool false, undef, undef, undef, undef, undef, undef, undef, undef, undef, undef, undef, undef, undef, undef, undef, undef, undef, undef, undef, undef, undef, .bool false, .bool false, .int .i64 (R.e), .bool true, .bool true, .slice a (rs.length) cp, .int .i64 (i), .pointer (some ⟨b73, o74, none⟩), .pointer (some ⟨b73, o74 + 1, none⟩), .string (y_x22.clu), .bool false, .bool false, .bool false, undef, undef, undef, undef, undef, undef, undef, undef, undef, undef, undef, undef, undef, undef, undef, undef, undef, undef, .bool false], rfl⟩
       ·exfalso
        exact c15_42 c15_5
      ·rw [decide_eq_false c15_35]
       refine dk.s rfl (wantF (g := 36) (d := 105) rfl rfl rfl) rfl ?_
       refine dk.s rfl (wantF (g := 36) (d := 105) rfl rfl rfl) rfl ?_
       refine dk.s rfl (wantF (g := 36) (d := 105) rfl rfl rfl) rfl ?_
       refine dk.s rfl (wantF (g := 36) (d := 105) rfl rfl rfl) rfl ?_
       refine dk.s rfl (wantF (g := 36) (d := 105) rfl rfl rfl) rfl ?_
       refine dk.s rfl (wantF (g := 36) (d := 105) rfl rfl rfl) rfl ?_
       refine dk.c (v := .bool false) rfl (by kernel_rfl) (wantT (g := 33) (d := 102) rfl rfl rfl) rfl rfl rfl ?_
       refine dk.c (v := .bool false) rfl (by kernel_rfl) (wantT (g := 33) (d := 102) rfl rfl rfl) rfl rfl rfl ?_
       refine dk.s rfl (wantF (g := 44) (d := 113) rfl rfl rfl) rfl ?_
       refine dk.s rfl (wantF (g := 44) (d := 113) rfl rfl rfl) rfl ?_
       refine dk.s rfl (wantF (g := 44) (d := 113) rfl rfl rfl) rfl ?_
       refine dk.s rfl (wantF (g := 44) (d := 113) rfl rfl rfl) rfl ?_
       refine dk.s rfl (wantF (g := 44) (d := 113) rfl rfl rfl) rfl ?_
       refine dk.s rfl (wantF (g := 44) (d := 113) rfl rfl rfl) rfl ?_
       refine dk.s rfl (wantF (g := 44) (d := 113) rfl rfl rfl) rfl ?_
       refine dk.s rfl (wantF (g := 44) (d := 113) rfl rfl rfl) rfl ?_
       refine dk.s rfl (wantF (g := 44) (d := 113) rfl rfl rfl) rfl ?_
       refine dk.s rfl (wantF (g := 44) (d := 113) rfl rfl rfl) rfl ?_
       refine dk.s rfl (wantF (g := 44) (d := 113) rfl rfl rfl) rfl ?_
       refine dk.s rfl (wantF (g := 44) (d := 113) rfl rfl rfl) rfl ?_
       refine dk.s rfl (wantF (g := 44) (d := 113) rfl rfl rfl) rfl ?_
       refine dk.s rfl (wantF (g := 44) (d := 113) rfl rfl rfl) rfl ?_
       refine dk.s rfl (wantF (g := 44) (d := 113) rfl rfl rfl) rfl ?_
       refine dk.s rfl (wantF (g := 44) (d := 113) rfl rfl rfl) rfl ?_
       refine dk.s rfl (wantF (g := 44) (d := 113) rfl rfl rfl) rfl ?_
       refine dk.s rfl (wantF (g := 44) (d := 113) rfl rfl rfl) rfl ?_
       refine dk.c (v := .bool false) rfl (by kernel_rfl) (wantT (g := 33) (d := 102) rfl rfl rfl) rfl rfl rfl ?_
       refine dk.c (v := .bool false) rfl (by kernel_rfl) rfl rfl rfl rfl ?_
       refine dk.e ?_
       refine ⟨_, rfl, hs, hn, hf, hb_bp, hf_x, hg_x, hb_bw, hb_fw, hb_gw, hSw, hSp, W_x, D_x, hb30, R_e, getV [undef, undef, undef, undef, undef, undef, undef, undef, undef, undef, undef, undef, undef, undef, undef, undef, undef, undef, undef, undef, undef, undef, undef, undef, undef, undef, undef, undef, undef, undef, undef, undef, undef, undef, undef, undef, undef, undef, undef, undef, undef, undef, undef, undef, undef, undef, undef, undef, undef, undef, undef, undef, undef, undef, undef, undef, undef, undef, undef, undef, undef, undef, undef, undef, undef, undef, undef, undef, undef, .slice a (rs.length) cp, .int .i64 (i), .pointer (some ⟨b66, o67, none⟩), .pointer (some ⟨b66, o67 + 1, none⟩), .string (y_x22.clu), .bool false, .bool false, undef, undef, .bool false, .bool false, undef, undef, undef, undef, undef, undef, undef, undef, undef, undef, undef, undef, undef, undef, undef, undef, undef, undef, undef, undef, undef, .bool false, .bool false, .int .i64 (R.e), .bool false, .bool false, undef, undef, undef, undef, undef, undef, .bool false, .bool false, undef, undef, undef, undef, undef, undef, undef, undef, undef, undef, undef, undef, undef, undef, undef, undef, undef, undef, .bool false], rfl⟩
     ·rw [decide_eq_false c15_5]
      refine dk.c (v := .int .i64 (R.e)) rfl (by kernel_rfl) (wantT (g := 6) (d := 75) rfl rfl rfl) rfl rfl rfl ?_
      refine dk.c (v := .bool (!decide (R.e = (4 : Int)))) rfl (by kernel_rfl) (wantT (g := 6) (d := 75) rfl rfl rfl) rfl rfl rfl ?_
      refine dk.c (v := .bool (!decide (R.e = (4 : Int)))) rfl (by kernel_rfl) rfl rfl rfl rfl ?_
      refine dk.c (v := .bool (!decide (R.e = (4 : Int)))) rfl (by kernel_rfl) rfl rfl rfl rfl ?_
      by_cases c15_8 : R.e = (4 : Int)
      ·rw [decide_eq_true c15_8]
       refine dk.s rfl (wantF (g := 10) (d := 79) rfl rfl rfl) rfl ?_
       refine dk.s rfl (wantF (g := 10) (d := 79) rfl rfl rfl) rfl ?_
       refine dk.s rfl (wantF (g := 10) (d := 79) rfl rfl rfl) rfl ?_
       refine dk.s rfl (wantF (g := 10) (d := 79) rfl rfl rfl) rfl ?_
       refine dk.s rfl (wantF (g := 10) (d := 79) rfl rfl rfl) rfl ?_
       refine dk.s rfl (wantF (g := 10) (d := 79) rfl rfl rfl) rfl ?_
       refine dk.s rfl (wantF (g := 10) (d := 79) rfl rfl rfl) rfl ?_
       refine dk.s rfl (wantF (g := 10) (d := 79) rfl rfl rfl) rfl ?_
       refine dk.s rfl (wantF (g := 10) (d := 79) rfl rfl rfl) rfl ?_
       refine dk.s rfl (wantF (g := 10) (d := 79) rfl rfl rfl) rfl ?_
       refine dk.s rfl (wantF (g := 10) (d := 79) rfl rfl rfl) rfl ?_
       refine dk.s rfl (wantF (g := 10) (d := 79) rfl rfl rfl) rfl ?_
       refine dk.s rfl (wantF (g := 10) (d := 79) rfl rfl rfl) rfl ?_
       refine dk.s rfl (wantF (g := 10) (d := 79) rfl rfl rfl) rfl ?_
       refine dk.s rfl (wantF (g := 10) (d := 79) rfl rfl rfl) rfl ?_
       refine dk.s rfl (wantF (g := 10) (d := 79) rfl rfl rfl) rfl ?_
       refine dk.s rfl (wantF (g := 10) (d := 79) rfl rfl rfl) rfl ?_
       refine dk.s rfl (wantF (g := 10) (d := 79) rfl rfl rfl) rfl ?_
       refine dk.s rfl (wantF (g := 10) (d := 79) rfl rfl rfl) rfl ?_
       refine dk.s rfl (wantF (g := 10) (d := 79) rfl rfl rfl) rfl ?_
       refine dk.s rfl (wantF (g := 10) (d := 79) rfl rfl rfl) rfl ?_
       refine dk.c (v := .bool false) rfl (by kernel_rfl) rfl rfl rfl rfl ?_
       refine dk.c (v := .bool false) rfl (by kernel_rfl) rfl rfl rfl rfl ?_
       refine dk.c (v := .int .i64 (R.e)) rfl (by kernel_rfl) (wantT (g := 33) (d := 102) rfl rfl rfl) rfl rfl rfl ?_
       refine dk.c (v := .bool (decide (R.e = (0 : Int)))) rfl (by kernel_rfl) (wantT (g := 33) (d := 102) rfl rfl rfl) rfl rfl rfl ?_
       refine dk.c (v := .bool (decide (R.e = (0 : Int)))) rfl (by kernel_rfl) (wantT (g := 33) (d := 102) rfl rfl rfl) rfl rfl rfl ?_
       by_cases c15_35 : R.e = (0 : Int)
       ·exfalso
        omega
       ·rw [decide_eq_false c15_35]
        refine dk.s rfl (wantF (g := 36) (d := 105) rfl rfl rfl) rfl ?_
        refine dk.s rfl (wantF (g := 36) (d := 105) rfl rfl rfl) rfl ?_
        refine dk.s rfl (wantF (g := 36) (d := 105) rfl rfl rfl) rfl ?_
        refine dk.s rfl (wantF (g := 36) (d := 105) rfl rfl rfl) rfl ?_
        refine dk.s rfl (wantF (g := 36) (d := 105) rfl rfl rfl) rfl ?_
        refine dk.s rfl (wantF (g := 36) (d := 105) rfl rfl rfl) rfl ?_
        refine dk.c (v := .bool false) rfl (by kernel_rfl) (wantT (g := 33) (d := 102) rfl rfl rfl) rfl rfl rfl ?_
        refine dk.c (v := .bool false) rfl (by kernel_rfl) (wantT (g := 33) (d := 102) rfl rfl rfl) rfl rfl rfl ?_
        refine dk.s rfl (wantF (g := 44) (d := 113) rfl rfl rfl) rfl ?_
        refine dk.s rfl (wantF (g := 44) (d := 113) rfl rfl rfl) rfl ?_
        refine dk.s rfl (wantF (g := 44) (d := 113) rfl rfl rfl) rfl ?_
        refine dk.s rfl (wantF (g := 44) (d := 113) rfl rfl rfl) rfl ?_
        refine dk.s rfl (wantF (g := 44) (d := 113) rfl rfl rfl) rfl ?_
        refine dk.s rfl (wantF (g := 44) (d := 113) rfl rfl rfl) rfl ?_
        refine dk.s rfl (wantF (g := 44) (d := 113) rfl rfl rfl) rfl ?_
        refine dk.s rfl (wantF (g := 44) (d := 113) rfl rfl rfl) rfl ?_
        refine dk.s rfl (wantF (g := 44) (d := 113) rfl rfl rfl) rfl ?_
        refine dk.s rfl (wantF (g := 44) (d := 113) rfl rfl rfl) rfl ?_
        refine dk.s rfl (wantF (g := 44) (d := 113) rfl rfl rfl) rfl ?_
        refine dk.s rfl (wantF (g := 44) (d := 113) rfl rfl rfl) rfl ?_
        refine dk.s rfl (wantF (g := 44) (d := 113) rfl rfl rfl) rfl ?_
        refine dk.s rfl (wantF (g := 44) (d := 113) rfl rfl rfl) rfl ?_
        refine dk.s rfl (wantF (g := 44) (d := 113) rfl rfl rfl) rfl ?_
        refine dk.s rfl (wantF (g := 44) (d := 113) rfl rfl rfl) rfl ?_
        refine dk.s rfl (wantF (g := 44) (d := 113) rfl rfl rfl) rfl ?_
        refine dk.s rfl (wantF (g := 44) (d := 113) rfl rfl rfl) rfl ?_
        refine dk.c (v := .bool false) rfl (by kernel_rfl) (wantT (g := 33) (d := 102) rfl rfl rfl) rfl rfl rfl ?_
        refine dk.c (v := .bool false) rfl (by kernel_rfl) rfl rfl rfl rfl ?_
        refine dk.e ?_
        refine ⟨_, rfl, hs, hn, hf, hb_bp, hf_x, hg_x, hb_bw, hb_fw, hb_gw, hSw, hSp, W_x, D_x, hb30, R_e, getV [undef, undef, undef, undef, undef, undef, undef, undef, undef, undef, undef, undef, undef, undef, undef, undef, undef, undef, undef, undef, undef, undef, undef, undef, undef, undef, undef, undef, undef, undef, undef, undef, undef, undef, undef, undef, undef, undef, undef, undef, undef, undef, undef, undef, undef, undef, undef, undef, undef, undef, undef, undef, undef, undef, undef, undef, undef, undef, undef, undef, undef, undef, undef, undef, undef, undef, undef, undef, undef, .slice a (rs.length) cp, .int .i64 (i), .pointer (some ⟨b66, o67, none⟩), .pointer (some ⟨b66, o67 + 1, none⟩), .string (y_x22.clu), .bool true, .bool true, .int .i64 (R.e), .bool false, .bool false, .bool false, undef, undef, undef, undef, undef, undef, undef, undef, undef, undef, undef, undef, undef, undef, undef, undef, undef, undef, undef, undef, undef, .bool false, .bool false, .int .i64 (R.e), .bool false, .bool false, undef, undef, undef, undef, undef, undef, .bool false, .bool false, undef, undef, undef, undef, undef, undef, undef, undef, undef, undef, undef, undef, undef, undef, undef, undef, undef, undef, .bool false], rfl⟩
      ·rw [decide_eq_false c15_8]
       refine dk.c (v := .int .i64 (R.e)) rfl (by kernel_rfl) (wantT (g := 10) (d := 79) rfl rfl rfl) rfl rfl rfl ?_
       refine dk.c (v := .bool (decide (R.e = (61 : Int)))) rfl (by kernel_rfl) (wantT (g := 10) (d := 79) rfl rfl rfl) rfl rfl rfl ?_
       refine dk.c (v := .slice a (rs.length) cp) rfl (by kernel_rfl) (wantT (g := 10) (d := 79) rfl rfl rfl) rfl rfl rfl ?_
       refine dk.c (v := .int .i64 (i)) rfl (by kernel_rfl) (wantT (g := 10) (d := 79) rfl rfl rfl) rfl rfl rfl ?_
       have i86 : (0 : Int) ≤ (i : Int) := by omega
       obtain ⟨b80, o81, cs_b80, ow_b80, ci_b80, ie85, hb82, hc83, hr84⟩ := IsRow.at (P := Tryd.prog) (t := 22) (e := 31) (k := .i64) (by kernel_rfl) (by kernel_rfl) (hr.keep (.of0 hs)).is i86 hx_x22
       refine dk.c (v := .pointer (some ⟨b80, o81, none⟩)) rfl (by kernel_rfl) (wantT (g := 10) (d := 79) rfl rfl rfl) rfl ie85 rfl ?_
       refine dk.c (v := .pointer (some ⟨b80, o81 + 2, none⟩)) rfl (by kernel_rfl) (wantT (g := 10) (d := 79) rfl rfl rfl) rfl (by kernel_rfl) rfl ?_
       refine dk.gB (v := .int .i64 (y_x22.epo)) b80 rfl (by kernel_rfl) (wantT (g := 10) (d := 79) rfl rfl rfl) rfl (fun _ q_ => (ld1 (P := Tryd.prog) (t := 2) (p := o81 + 2) (v := .int .i64 (y_x22.epo)) (by kernel_rfl) (by kernel_rfl) (q_ _ hb82) (hc83 2 _ rfl))) rfl ?_
       refine dk.c (v := .pointer (some ⟨bw, 0, none⟩)) rfl (by kernel_rfl) (wantT (g := 10) (d := 79) rfl rfl rfl) rfl rfl rfl ?_
       refine dk.c (v := .slice a (rs.length) cp) rfl (by kernel_rfl) (wantT (g := 10) (d := 79) rfl rfl rfl) rfl rfl rfl ?_
       refine dk.c (v := .int .i64 (i)) rfl (by kernel_rfl) (wantT (g := 10) (d := 79) rfl rfl rfl) rfl rfl rfl ?_
       have i93 : (0 : Int) ≤ (i : Int) := by omega
       obtain ⟨b87, o88, cs_b87, ow_b87, ci_b87, ie92, hb89, hc90, hr91⟩ := IsRow.at (P := Tryd.prog) (t := 22) (e := 31) (k := .i64) (by kernel_rfl) (by kernel_rfl) (hr.keep (.of0 hs)).is i93 hx_x22
       refine dk.c (v := .pointer (some ⟨b87, o88, none⟩)) rfl (by kernel_rfl) (wantT (g := 10) (d := 79) rfl rfl rfl) rfl ie92 rfl ?_
       refine dk.c (v := .pointer (some ⟨b87, o88, none⟩)) rfl (by kernel_rfl) (wantT (g := 10) (d := 79) rfl rfl rfl) rfl (by kernel_rfl) rfl ?_
       refine dk.gB (v := .string (y_x22.ten)) b87 rfl (by kernel_rfl) (wantT (g := 10) (d := 79) rfl rfl rfl) rfl (fun _ q_ => (ld1 (P := Tryd.prog) (t := 9) (p := o88 + 0) (v := .string (y_x22.ten)) (by kernel_rfl) (by kernel_rfl) (q_ _ hb89) (hc90 0 _ rfl))) rfl ?_
       refine dk.c (v := .slice a (rs.length) cp) rfl (by kernel_rfl) (wantT (g := 10) (d := 79) rfl rfl rfl) rfl rfl rfl ?_
       refine dk.c (v := .int .i64 (i)) rfl (by kernel_rfl) (wantT (g := 10) (d := 79) rfl rfl rfl) rfl rfl rfl ?_
       have i100 : (0 : Int) ≤ (i : Int) := by omega
       obtain ⟨b94, o95, cs_b94, ow_b94, ci_b94, ie99, hb96, hc97, hr98⟩ := IsRow.at (P := Tryd.prog) (t := 22) (e := 31) (k := .i64) (by kernel_rfl) (by kernel_rfl) (hr.keep (.of0 hs)).is i100 hx_x22
       refine dk.c (v := .pointer (some ⟨b94, o95, none⟩)) rfl (by kernel_rfl) (wantT (g := 10) (d := 79) rfl rfl rfl) rfl ie99 rfl ?_
       refine dk.c (v := .pointer (some ⟨b94, o95 + 1, none⟩)) rfl (by kernel_rfl) (wantT (g := 10) (d := 79) rfl rfl rfl) rfl (by kernel_rfl) rfl ?_
       refine dk.gB (v := .string (y_x22.clu)) b94 rfl (by kernel_rfl) (wantT (g := 10) (d := 79) rfl rfl rfl) rfl (fun _ q_ => (ld1 (P := Tryd.prog) (t := 9) (p := o95 + 1) (v := .string (y_x22.clu)) (by kernel_rfl) (by kernel_rfl) (q_ _ hb96) (hc97 1 _ rfl))) rfl ?_
       refine dk.t (v := .int .i64 (((mget P.F (y_x22.ten, y_x22.clu)).getD 0))) rfl (by kernel_rfl) (wantT (g := 10) (d := 79) rfl rfl rfl) (CallsF.fn rfl (by kernel_rfl) rfl rfl) (fun hf => fenceOn (⟨hb_bw, hb_fw, hb_gw, okfp, okgp, hSw, ne_fw_gw⟩ : At _ P _ _ _ _ Gp) y_x22.ten y_x22.clu) hf rfl ?_
       intro n101 hn2 hf
       have hn := Nat.le_trans hn hn2
       refine dk.c (v := .bool (decide (y_x22.epo < (((mget P.F (y_x22.ten, y_x22.clu)).getD 0))))) rfl (by kernel_rfl) (wantT (g := 10) (d := 79) rfl rfl rfl) rfl rfl rfl ?_
       refine dk.c (v := .bool ((decide (R.e = (61 : Int))) != (decide (y_x22.epo < (((mget P.F (y_x22.ten, y_x22.clu)).getD 0)))))) rfl (by kernel_rfl) (wantT (g := 10) (d := 79) rfl rfl rfl) rfl (boolNeq _ _) rfl ?_
       refine dk.c (v := .bool ((decide (R.e = (61 : Int))) != (decide (y_x22.epo < (((mget P.F (y_x22.ten, y_x22.clu)).getD 0)))))) rfl (by kernel_rfl) rfl rfl rfl rfl ?_
       refine dk.c (v := .bool ((decide (R.e = (61 : Int))) != (decide (y_x22.epo < (((mget P.F (y_x22.ten, y_x22.clu)).getD 0)))))) rfl (by kernel_rfl) rfl rfl rfl rfl ?_
       rcases Bool.eq_false_or_eq_true ((decide (R.e = (61 : Int))) != (decide (y_x22.epo < (((mget P.F (y_x22.ten, y_x22.clu)).getD 0))))) with c15_31 | c15_31
       ·exfalso
        have hi_ := take_e61 (P := P) (b := y_x22) c15_5 (by rw [← hR]; exact c15_8)
        rw [← hR] at hi_
        by_cases hq_ : R.e = 61
        ·rw [decide_eq_true hq_, decide_eq_true (hi_.1 hq_)] at c15_31; cases c15_31
        ·rw [decide_eq_false hq_, decide_eq_false (fun z => hq_ (hi_.2 z))] at c15_31; cases c15_31
       ·rw [c15_31]
        refine dk.c (v := .int .i64 (R.e)) rfl (by kernel_rfl) (wantT (g := 33) (d := 102) rfl rfl rfl) rfl rfl rfl ?_
        refine dk.c (v := .bool (decide (R.e = (0 : Int)))) rfl (by kernel_rfl) (wantT (g := 33) (d := 102) rfl rfl rfl) rfl rfl rfl ?_
        refine dk.c (v := .bool (decide (R.e = (0 : Int)))) rfl (by kernel_rfl) (wantT (g := 33) (d := 102) rfl rfl rfl) rfl rfl rfl ?_
        by_cases c15_35 : R.e = (0 : Int)
        ·rw [decide_eq_true c15_35]
         refine dk.c (v := .slice a (rs.length) cp) rfl (by kernel_rfl) (wantT (g := 36) (d := 105) rfl rfl rfl) rfl rfl rfl ?_
         refine dk.c (v := .int .i64 (i)) rfl (by kernel_rfl) (wantT (g := 36) (d := 105) rfl rfl rfl) rfl rfl rfl ?_
         have i108 : (0 : Int) ≤ (i : Int) := by omega
         obtain ⟨b102, o103, cs_b102, ow_b102, ci_b102, ie107, hb104, hc105, hr106⟩ := IsRow.at (P := Tryd.prog) (t := 22) (e := 31) (k := .i64) (by kernel_rfl) (by kernel_rfl) (hr.keep (.of0 hs)).is i108 hx_x22
         refine dk.c (v := .pointer (some ⟨b102, o103, none⟩)) rfl (by kernel_rfl) (wantT (g := 36) (d := 105) rfl rfl rfl) rfl ie107 rfl ?_
         refine dk.c (v := .pointer (some ⟨b102, o103 + 1, none⟩)) rfl (by kernel_rfl) (wantT (g := 36) (d := 105) rfl rfl rfl) rfl (by kernel_rfl) rfl ?_
         refine dk.gB (v := .string (y_x22.clu)) b102 rfl (by kernel_rfl) (wantT (g := 36) (d := 105) rfl rfl rfl) rfl (fun _ q_ => (ld1 (P := Tryd.prog) (t := 9) (p := o103 + 1) (v := .string (y_x22.clu)) (by kernel_rfl) (by kernel_rfl) (q_ _ hb104) (hc105 1 _ rfl))) rfl ?_
         refine dk.c (v := .bool (!decide (y_x22.clu = (⟨#[]⟩ : ByteArray)))) rfl (by kernel_rfl) (wantT (g := 36) (d := 105) rfl rfl rfl) rfl (neD _ _) rfl ?_
         refine dk.c (v := .bool (!decide (y_x22.clu = (⟨#[]⟩ : ByteArray)))) rfl (by kernel_rfl) (wantT (g := 33) (d := 102) rfl rfl rfl) rfl rfl rfl ?_
         refine dk.c (v := .bool (!decide (y_x22.clu = (⟨#[]⟩ : ByteArray)))) rfl (by kernel_rfl) (wantT (g := 33) (d := 102) rfl rfl rfl) rfl rfl rfl ?_
         by_cases c15_42 : y_x22.clu = (⟨#[]⟩ : ByteArray)
         ·exfalso
          exact c15_5 c15_42
         ·rw [decide_eq_false c15_42]
          refine dk.c (v := .pointer (some ⟨bp, 0, none⟩)) rfl (by kernel_rfl) (wantT (g := 44) (d := 113) rfl rfl rfl) rfl rfl rfl ?_
          refine dk.c (v := .slice a (rs.length) cp) rfl (by kernel_rfl) (wantT (g := 44) (d := 113) rfl rfl rfl) rfl rfl rfl ?_
          refine dk.c (v := .int .i64 (i)) rfl (by kernel_rfl) (wantT (g := 44) (d := 113) rfl rfl rfl) rfl rfl rfl ?_
          have i115 : (0 : Int) ≤ (i : Int) := by omega
          obtain ⟨b109, o110, cs_b109, ow_b109, ci_b109, ie114, hb111, hc112, hr113⟩ := IsRow.at (P := Tryd.prog) (t := 22) (e := 31) (k := .i64) (by kernel_rfl) (by kernel_rfl) (hr.keep (.of0 hs)).is i115 hx_x22
          refine dk.c (v := .pointer (some ⟨b109, o110, none⟩)) rfl (by kernel_rfl) (wantT (g := 44) (d := 113) rfl rfl rfl) rfl ie114 rfl ?_
          refine dk.c (v := .pointer (some ⟨b109, o110, none⟩)) rfl (by kernel_rfl) (wantT (g := 44) (d := 113) rfl rfl rfl) rfl (by kernel_rfl) rfl ?_
          refine dk.gB (v := .string (y_x22.ten)) b109 rfl (by kernel_rfl) (wantT (g := 44) (d := 113) rfl rfl rfl) rfl (fun _ q_ => (ld1 (P := Tryd.prog) (t := 9) (p := o110 + 0) (v := .string (y_x22.ten)) (by kernel_rfl) (by kernel_rfl) (q_ _ hb111) (hc112 0 _ rfl))) rfl ?_
          refine dk.c (v := .slice a (rs.length) cp) rfl (by kernel_rfl) (wantT (g := 44) (d := 113) rfl rfl rfl) rfl rfl rfl ?_
          refine dk.c (v := .int .i64 (i)) rfl (by kernel_rfl) (wantT (g := 44) (d := 113) rfl rfl rfl) rfl rfl rfl ?_
          have i122 : (0 : Int) ≤ (i : Int) := by omega
          obtain ⟨b116, o117, cs_b116, ow_b116, ci_b116, ie121, hb118, hc119, hr120⟩ := IsRow.at (P := Tryd.prog) (t := 22) (e := 31) (k := .i64) (by kernel_rfl) (by kernel_rfl) (hr.keep (.of0 hs)).is i122 hx_x22
          refine dk.c (v := .pointer (some ⟨b116, o117, none⟩)) rfl (by kernel_rfl) (wantT (g := 44) (d := 113) rfl rfl rfl) rfl ie121 rfl ?_
          refine dk.c (v := .pointer (some ⟨b116, o117 + 1, none⟩)) rfl (by kernel_rfl) (wantT (g := 44) (d := 113) rfl rfl rfl) rfl (by kernel_rfl) rfl ?_
          refine dk.gB (v := .string (y_x22.clu)) b116 rfl (by kernel_rfl) (wantT (g := 44) (d := 113) rfl rfl rfl) rfl (fun _ q_ => (ld1 (P := Tryd.prog) (t := 9) (p := o117 + 1) (v := .string (y_x22.clu)) (by kernel_rfl) (by kernel_rfl) (q_ _ hb118) (hc119 1 _ rfl))) rfl ?_
          refine dk.c (v := .slice a (rs.length) cp) rfl (by kernel_rfl) (wantT (g := 44) (d := 113) rfl rfl rfl) rfl rfl rfl ?_
          refine dk.c (v := .int .i64 (i)) rfl (by kernel_rfl) (wantT (g := 44) (d := 113) rfl rfl rfl) rfl rfl rfl ?_
          have i129 : (0 : Int) ≤ (i : Int) := by omega
          obtain ⟨b123, o124, cs_b123, ow_b123, ci_b123, ie128, hb125, hc126, hr127⟩ := IsRow.at (P := Tryd.prog) (t := 22) (e := 31) (k := .i64) (by kernel_rfl) (by kernel_rfl) (hr.keep (.of0 hs)).is i129 hx_x22
          refine dk.c (v := .pointer (some ⟨b123, o124, none⟩)) rfl (by kernel_rfl) (wantT (g := 44) (d := 113) rfl rfl rfl) rfl ie128 rfl ?_
          refine dk.c (v := .pointer (some ⟨b123, o124 + 2, none⟩)) rfl (by kernel_rfl) (wantT (g := 44) (d := 113) rfl rfl rfl) rfl (by kernel_rfl) rfl ?_
          refine dk.gB (v := .int .i64 (y_x22.epo)) b123 rfl (by kernel_rfl) (wantT (g := 44) (d := 113) rfl rfl rfl) rfl (fun _ q_ => (ld1 (P := Tryd.prog) (t := 2) (p := o124 + 2) (v := .int .i64 (y_x22.epo)) (by kernel_rfl) (by kernel_rfl) (q_ _ hb125) (hc126 2 _ rfl))) rfl ?_
          refine dk.t (v := .int .i64 (((mget R.F (y_x22.ten, y_x22.clu)).getD 0))) rfl (by kernel_rfl) (wantT (g := 44) (d := 113) rfl rfl rfl) (CallsF.fn rfl (by kernel_rfl) rfl rfl) (fun hf => fenceOn (⟨hb_bp, hf_x, hg_x, okF_x, okG_x, hSp, ne_fp_gp⟩ : At _ R.st _ _ _ _ G_x) y_x22.ten y_x22.clu) hf rfl ?_
          intro n130 hn2 hf
          have hn := Nat.le_trans hn hn2
          refine dk.c (v := .bool (!decide ((((mget R.F (y_x22.ten, y_x22.clu)).getD 0)) = y_x22.epo))) rfl (by kernel_rfl) (wantT (g := 44) (d := 113) rfl rfl rfl) rfl rfl rfl ?_
          refine dk.c (v := .bool (!decide ((((mget R.F (y_x22.ten, y_x22.clu)).getD 0)) = y_x22.epo))) rfl (by kernel_rfl) (wantT (g := 33) (d := 102) rfl rfl rfl) rfl rfl rfl ?_
          refine dk.c (v := .bool (!decide ((((mget R.F (y_x22.ten, y_x22.clu)).getD 0)) = y_x22.epo))) rfl (by kernel_rfl) rfl rfl rfl rfl ?_
          refine dk.e ?_
          by_cases c15_62 : (((mget R.F (y_x22.ten, y_x22.clu)).getD 0)) = y_x22.epo
          ·rw [decide_eq_true c15_62]
           refine ⟨_, rfl, hs, hn, hf, hb_bp, hf_x, hg_x, hb_bw, hb_fw, hb_gw, hSw, hSp, W_x, D_x, hb30, R_e, getV [undef, undef, undef, undef, undef, undef, undef, undef, undef, undef, undef, undef, undef, undef, undef, undef, undef, undef, undef, undef, undef, undef, undef, undef, undef, undef, undef, undef, undef, undef, undef, undef, undef, undef, undef, undef, undef, undef, undef, undef, undef, undef, undef, undef, undef, undef, undef, undef, undef, undef, undef, undef, undef, undef, undef, undef, undef, undef, undef, undef, undef, undef, undef, undef, undef, undef, undef, undef, undef, .slice a (rs.length) cp, .int .i64 (i), .pointer (some ⟨b66, o67, none⟩), .pointer (some ⟨b66, o67 + 1, none⟩), .string (y_x22.clu), .bool true, .bool true, .int .i64 (R.e), .bool true, .bool true, .bool true, .int .i64 (R.e), .bool (decide (R.e = (61 : Int))), .slice a (rs.length) cp, .int .i64 (i), .pointer (some ⟨b80, o81, none⟩), .pointer (some ⟨b80, o81 + 2, none⟩), .int .i64 (y_x22.epo), .pointer (some ⟨bw, 0, none⟩), .slice a (rs.length) cp, .int .i64 (i), .pointer (some ⟨b87, o88, none⟩), .pointer (some ⟨b87, o88, none⟩), .string (y_x22.ten), .slice a (rs.length) cp, .int .i64 (i), .pointer (some ⟨b94, o95, none⟩), .pointer (some ⟨b94, o95 + 1, none⟩), .string (y_x22.clu), .int .i64 (((mget P.F (y_x22.ten, y_x22.clu)).getD 0)), .bool (decide (y_x22.epo < (((mget P.F (y_x22.ten, y_x22.clu)).getD 0)))), .bool false, .bool false, .bool false, .int .i64 (R.e), .bool true, .bool true, .slice a (rs.length) cp, .int .i64 (i), .pointer (some ⟨b102, o103, none⟩), .pointer (some ⟨b102, o103 + 1, none⟩), .string (y_x22.clu), .bool true, .bool true, .bool true, .pointer (some ⟨bp, 0, none⟩), .slice a (rs.length) cp, .int .i64 (i), .pointer (some ⟨b109, o110, none⟩), .pointer (some ⟨b109, o110, none⟩), .string (y_x22.ten), .slice a (rs.length) cp, .int .i64 (i), .pointer (some ⟨b116, o117, none⟩), .pointer (some ⟨b116, o117 + 1, none⟩), .string (y_x22.clu), .int .i64 (((mget R.F (y_x22.ten, y_x22.clu)).getD 0)), .slice a (rs.length) cp, .int .i64 (i), .pointer (some ⟨b123, o124, none⟩), .pointer (some ⟨b123, o124 + 2, none⟩), .int .i64 (y_x22.epo), .bool false, .bool false], rfl⟩
          ·exfalso
           exact c15_62 (by rw [hR]; exact take_fence c15_42 (by rw [← hR]; exact c15_35))
        ·rw [decide_eq_false c15_35]
         refine dk.s rfl (wantF (g := 36) (d := 105) rfl rfl rfl) rfl ?_
         refine dk.s rfl (wantF (g := 36) (d := 105) rfl rfl rfl) rfl ?_
         refine dk.s rfl (wantF (g := 36) (d := 105) rfl rfl rfl) rfl ?_
         refine dk.s rfl (wantF (g := 36) (d := 105) rfl rfl rfl) rfl ?_
         refine dk.s rfl (wantF (g := 36) (d := 105) rfl rfl rfl) rfl ?_
         refine dk.s rfl (wantF (g := 36) (d := 105) rfl rfl rfl) rfl ?_
         refine dk.c (v := .bool false) rfl (by kernel_rfl) (wantT (g := 33) (d := 102) rfl rfl rfl) rfl rfl rfl ?_
         refine dk.c (v := .bool false) rfl (by kernel_rfl) (wantT (g := 33) (d := 102) rfl rfl rfl) rfl rfl rfl ?_
         refine dk.s rfl (wantF (g := 44) (d := 113) rfl rfl rfl) rfl ?_
         refine dk.s rfl (wantF (g := 44) (d := 113) rfl rfl rfl) rfl ?_
         refine dk.s rfl (wantF (g := 44) (d := 113) rfl rfl rfl) rfl ?_
         refine dk.s rfl (wantF (g := 44) (d := 113) rfl rfl rfl) rfl ?_
         refine dk.s rfl (wantF (g := 44) (d := 113) rfl rfl rfl) rfl ?_
         refine dk.s rfl (wantF (g := 44) (d := 113) rfl rfl rfl) rfl ?_
         refine dk.s rfl (wantF (g := 44) (d := 113) rfl rfl rfl) rfl ?_
         refine dk.s rfl (wantF (g := 44) (d := 113) rfl rfl rfl) rfl ?_
         refine dk.s rfl (wantF (g := 44) (d := 113) rfl rfl rfl) rfl ?_
         refine dk.s rfl (wantF (g := 44) (d := 113) rfl rfl rfl) rfl ?_
         refine dk.s rfl (wantF (g := 44) (d := 113) rfl rfl rfl) rfl ?_
         refine dk.s rfl (wantF (g := 44) (d := 113) rfl rfl rfl) rfl ?_
         refine dk.s rfl (wantF (g := 44) (d := 113) rfl rfl rfl) rfl ?_
         refine dk.s rfl (wantF (g := 44) (d := 113) rfl rfl rfl) rfl ?_
         refine dk.s rfl (wantF (g := 44) (d := 113) rfl rfl rfl) rfl ?_
         refine dk.s rfl (wantF (g := 44) (d := 113) rfl rfl rfl) rfl ?_
         refine dk.s rfl (wantF (g := 44) (d := 113) rfl rfl rfl) rfl ?_
         refine dk.s rfl (wantF (g := 44) (d := 113) rfl rfl rfl) rfl ?_
         refine dk.c (v := .bool false) rfl (by kernel_rfl) (wantT (g := 33) (d := 102) rfl rfl rfl) rfl rfl rfl ?_
         refine dk.c (v := .bool false) rfl (by kernel_rfl) rfl rfl rfl rfl ?_
         refine dk.e ?_
         refine ⟨_, rfl, hs, hn, hf, hb_bp, hf_x, hg_x, hb_bw, hb_fw, hb_gw, hSw, hSp, W_x, D_x, hb30, R_e, getV [undef, undef, undef, undef, undef, undef, undef, undef, undef, undef, undef, undef, undef, undef, undef, undef, undef, undef, undef, undef, undef, undef, undef, undef, undef, undef, undef, undef, undef, undef, undef, undef, undef, undef, undef, undef, undef, undef, undef, undef, undef, undef, undef, undef, undef, undef, undef, undef, undef, undef, undef, undef, undef, undef, undef, undef, undef, undef, undef, undef, undef, undef, undef, undef, undef, undef, undef, undef, undef, .slice a (rs.length) cp, .int .i64 (i), .pointer (some ⟨b66, o67, none⟩), .pointer (some ⟨b66, o67 + 1, none⟩), .string (y_x22.clu), .bool true, .bool true, .int .i64 (R.e), .bool true, .bool true, .bool true, .int .i64 (R.e), .bool (decide (R.e = (61 : Int))), .slice a (rs.length) cp, .int .i64 (i), .pointer (some ⟨b80, o81, none⟩), .pointer (some ⟨b80, o81 + 2, none⟩), .int .i64 (y_x22.epo), .pointer (some ⟨bw, 0, none⟩), .slice a (rs.length) cp, .int .i64 (i), .pointer (some ⟨b87, o88, none⟩), .pointer (some ⟨b87, o88, none⟩), .string (y_x22.ten), .slice a (rs.length) cp, .int .i64 (i), .pointer (some ⟨b94, o95, none⟩), .pointer (some ⟨b94, o95 + 1, none⟩), .string (y_x22.clu), .int .i64 (((mget P.F (y_x22.ten, y_x22.clu)).getD 0)), .bool (decide (y_x22.epo < (((mget P.F (y_x22.ten, y_x22.clu)).getD 0)))), .bool false, .bool false, .bool false, .int .i64 (R.e), .bool false, .bool false, undef, undef, undef, undef, undef, undef, .bool false, .bool false, undef, undef, undef, undef, undef, undef, undef, undef, undef, undef, undef, undef, undef, undef, undef, undef, undef, undef, .bool false], rfl⟩
    ·skip
     rintro vs h64 n65 ⟨hs, hn, hf, hb_bp, hf_x, hg_x, hb_bw, hb_fw, hb_gw, hSw, hSp, W_x, D_x, hb30, R_e, y63, rfl⟩
     refine AWp.condF rfl rfl ?_
     refine AWp.skip (AWp.seq (AWp.rowV (l := _) pok ?_))
     refine sq.c (v := .pointer (some ⟨bw, 0, none⟩)) rfl rfl rfl rfl ?_
     refine sq.k rfl (CallsF.fn rfl (by kernel_rfl) rfl rfl) (allOn (⟨hb_bw, hb_fw, hb_gw, okfp, okgp, hSw, ne_fw_gw⟩ : At _ P _ _ _ _ Gp) hPi hi60) ?_
     rintro _ h131 n132 ⟨ro_o, R_o, D_o⟩ s133 hn2 hf
     obtain ⟨a_o, c_o, rfl⟩ := R_o.slice
     refine sq.w ?_
     have hSw := hSw.keep (.of0 s133)
     have hSp := hSp.keep (.of0 s133)
     have W_x := W_x.keep (.of0 s133)
     have D_x := D_x.keep (.of0 s133)
     have R_e := R_e.keep (.of0 s133)
     have hb_bp := s133.sub _ _ hb_bp
     have hf_x := s133.sub _ _ hf_x
     have hg_x := s133.sub _ _ hg_x
     have hb_bw := s133.sub _ _ hb_bw
     have hb_fw := s133.sub _ _ hb_fw
     have hb_gw := s133.sub _ _ hb_gw
     have hb30 := s133.sub _ _ hb30
     have hs := hs.trans s133
     have hn := Nat.le_trans hn hn2
     change FOwns _ ro_o (allV P.S) at D_o
     refine sq.c (v := .slice a_o (ro_o.length) c_o) rfl rfl rfl rfl ?_
     refine sq.e (AWp.seq (AWp.seq (AWp.rowV (l := _) pok ?_)))
     refine sq.c (v := .int .i64 (0)) rfl rfl rfl rfl ?_
     refine sq.e (AWp.block ?_)
     refine AWp.loopV (fun d vs h135 n136 => ∃ (k2 : Int), d = ((ro_o.length : Nat) - k2 + 1).toNat ∧ SubBut h h135 ([]) ∧ n ≤ n136 ∧ Free h135 n136 ∧ h135.get bp = some (.cells [.map (some fp), .map (some gp)] true ⟨69, 0, true⟩) ∧ h135.get fp = some (.map (mapE plV intV R.F) R.kf) ∧ h135.get gp = some (.map (mapE plV ownV G_x) R.kg) ∧ h135.get bw = some (.cells [.map (some fw), .map (some gw)] true ⟨69, 0, true⟩) ∧ h135.get fw = some (.map (mapE plV intV P.F) P.kf) ∧ h135.get gw = some (.map (mapE plV ownV Gp) P.kg) ∧ SMIs h135 Gp P.S ∧ SMIs h135 G_x R.S ∧ FRow encSer h135 (.slice a_x (os_x.length) c_x) (os_x) ∧ FSers h135 os_x R.kb.ser ∧ h135.get n24 = some (.cells [.string (R.kb.ten), .string (R.kb.clu), .int .i64 (R.kb.epo), .slice a_x (os_x.length) c_x, .int .i64 (R.bad), .bool (R.rose)] true ⟨33, 0, true⟩) ∧ FRow encFen h135 (.slice a_e (fencesV P.F).length c_e) ((fencesV P.F)) ∧ FRow encOwn h135 (.slice a_o (ro_o.length) c_o) (ro_o) ∧ FOwns h135 ro_o (allV P.S) ∧ (0 ≤ k2) ∧ (k2 ≤ (ro_o.length : Nat)) ∧ ∃ y134 : Nat → Value, vs = [.slice a (rs.length) cp, undef, (y134 2), .pointer (some ⟨bp, 0, none⟩), .int .i64 (i), .pointer (some ⟨bw, 0, none⟩), .pointer (some ⟨n24, 0, none⟩), .int .i64 (R.e), .slice a_e (fencesV P.F).length c_e, .int .i64 (k), .slice a_o (ro_o.length) c_o, .int .i64 (k2), (y134 12), (y134 13), (y9 14), (y9 15), (y9 16), (y9 17), .slice a (rs.length) cp, .bool false, .bool false, .bool true, .bool false, .bool false, undef, .pointer (some ⟨bp, 0, none⟩), .int .i64 (i), .slice a (rs.length) cp, .int .i64 (((rs.length : Nat) : Int)), .bool true, (y9 30), (y9 31), .pointer (some ⟨bp, 0, none⟩), .pointer (some ⟨bw, 0, none⟩), .tuple #[.agg #[.string (R.kb.ten), .string (R.kb.clu), .int .i64 (R.kb.epo), .slice a_x (os_x.length) c_x, .int .i64 (R.bad), .bool (R.rose)], .int .i64 (R.e)], .pointer (some ⟨bp, 0, none⟩), .slice a (rs.length) cp, .int .i64 (i), .pointer (some ⟨b15, o16, none⟩), .agg #[.string (y_x22.ten), .string (y_x22.clu), .int .i64 (y_x22.epo), .slice a_x22 (rs_x22.length) c_x22], .tuple #[.agg #[.string (R.kb.ten), .string (R.kb.clu), .int .i64 (R.kb.epo), .slice a_x (os_x.length) c_x, .int .i64 (R.bad), .bool (R.rose)], .int .i64 (R.e)], .agg #[.string (R.kb.ten), .string (R.kb.clu), .int .i64 (R.kb.epo), .slice a_x (os_x.length) c_x, .int .i64 (R.bad), .bool (R.rose)], .int .i64 (R.e), .pointer (some ⟨bw, 0, none⟩), .slice a_e (fencesV P.F).length c_e, .int .i64 (k), .slice a_e (fencesV P.F).length c_e, .int .i64 ((((fencesV P.F).length : Nat) : Int)), .bool false, (y37 49), (y37 50), (y37 51), (y37 52), (y37 53), (y37 54), (y37 55), (y37 56), (y37 57), (y37 58), (y37 59), (y37 60), (y37 61), (y37 62), (y37 63), (y37 64), (y37 65), (y37 66), (y37 67), (y37 68), (y63 69), (y63 70), (y63 71), (y63 72), (y63 73), (y63 74), (y63 75), (y63 76), (y63 77), (y63 78), (y63 79), (y63 80), (y63 81), (y63 82), (y63 83), (y63 84), (y63 85), (y63 86), (y63 87), (y63 88), (y63 89), (y63 90), (y63 91), (y63 92), (y63 93), (y63 94), (y63 95), (y63 96), (y63 97), (y63 98), (y63 99), (y63 100), (y63 101), (y63 102), (y63 103), (y63 104), (y63 105), (y63 106), (y63 107), (y63 108), (y63 109), (y63 110), (y63 111), (y63 112), (y63 113), (y63 114), (y63 115), (y63 116), (y63 117), (y63 118), (y63 119), (y63 120), (y63 121), (y63 122), (y63 123), (y63 124), (y63 125), (y63 126), (y63 127), (y63 128), (y63 129), (y63 130), (y63 131), (y63 132), .bool false, .pointer (some ⟨bw, 0, none⟩), .slice a_o (ro_o.length) c_o, (y134 136), (y134 137), (y134 138), (y134 139), (y134 140), (y134 141), (y134 142), (y134 143), (y134 144), (y134 145), (y134 146), (y134 147), (y134 148), (y134 149), (y134 150), (y134 151), (y134 152), (y134 153), (y134 154), (y134 155), (y134 156), (y134 157), (y134 158), (y134 159), (y134 160), (y134 161), (y134 162), (y134 163), (y134 164), (y134 165), (y134 166), (y134 167), (y134 168), (y134 169), (y134 170), (y134 171), (y134 172), (y134 173), (y134 174), (y134 175), (y134 176), (y134 177), (y134 178), (y9 179), (y9 180), (y9 181), (y9 182), (y9 183), (y9 184), (y9 185), (y9 186), (y9 187), (y9 188), (y9 189), (y9 190), (y9 191), (y9 192), (y9 193), (y9 194), (y9 195), (y9 196), (y9 197), (y9 198), (y9 199), (y9 200), (y9 201), (y9 202), (y9 203), (y9 204), (y9 205), (y9 206), (y9 207), (y9 208), (y9 209), (y9 210), (y9 211), (y9 212), (y9 213), (y9 214), (y9 215), (y9 216), (y9 217), (y9 218), (y9 219), (y9 220), (y9 221), (y9 222), (y9 223), (y9 224), (y9 225), (y9 226), (y9 227), (y9 228), (y9 229), (y9 230), (y9 231), (y9 232), (y9 233)]) (((ro_o.length : Nat) - (0 : Int) + 1).toNat) ⟨0, rfl, hs, hn, hf, hb_bp, hf_x, hg_x, hb_bw, hb_fw, hb_gw, hSw, hSp, W_x, D_x, hb30, R_e, R_o, D_o, (by omega), (by omega), getV [undef, undef, (y37 2), undef, undef, undef, undef, undef, undef, undef, undef, undef, (y9 12), (y9 13), undef, undef, undef, undef, undef, undef, undef, undef, undef, undef, undef, undef, undef, undef, undef, undef, undef, undef, undef, undef, undef, undef, undef, undef, undef, undef, undef, undef, undef, undef, undef, undef, undef, undef, undef, undef, undef, undef, undef, undef, undef, undef, undef, undef, undef, undef, undef, undef, undef, undef, undef, undef, undef, undef, undef, undef, undef, undef, undef, undef, undef, undef, undef, undef, undef, undef, undef, undef, undef, undef, undef, undef, undef, undef, undef, undef, undef, undef, undef, undef, undef, undef, undef, undef, undef, undef, undef, undef, undef, undef, undef, undef, undef, undef, undef, undef, undef, undef, undef, undef, undef, undef, undef, undef, undef, undef, undef, undef, undef, undef, undef, undef, undef, undef, undef, undef, undef, undef, undef, undef, undef, undef, (y9 136), (y9 137), (y9 138), (y9 139), (y9 140), (y9 141), (y9 142), (y9 143), (y9 144), (y9 145), (y9 146), (y9 147), (y9 148), (y9 149), (y9 150), (y9 151), (y9 152), (y9 153), (y9 154), (y9 155), (y9 156), (y9 157), (y9 158), (y9 159), (y9 160), (y9 161), (y9 162), (y9 163), (y9 164), (y9 165), (y9 166), (y9 167), (y9 168), (y9 169), (y9 170), (y9 171), (y9 172), (y9 173), (y9 174), (y9 175), (y9 176), (y9 177), (y9 178)], rfl⟩ ?_
     rintro d vs h135 n136 ⟨k2, rfl, hs, hn, hf, hb_bp, hf_x, hg_x, hb_bw, hb_fw, hb_gw, hSw, hSp, W_x, D_x, hb30, R_e, R_o, D_o, hk20, hk21, y134, rfl⟩
     have hrl2 := D_o.1
     rw [allV_len] at hrl2
     have hls2 := hPi.lenS
     refine AWp.seq (AWp.seq (AWp.rowV (l := _) pok ?_))
     refine sq.c (v := .int .i64 (k2)) rfl rfl rfl rfl ?_
     refine sq.c (v := .slice a_o (ro_o.length) c_o) rfl rfl rfl rfl ?_
     refine sq.c (v := .int .i64 (((ro_o.length : Nat) : Int))) rfl rfl (by kernel_rfl) rfl ?_
     refine sq.c (v := .bool (decide (k2 < (((ro_o.length : Nat) : Int))))) rfl rfl rfl rfl ?_
     refine sq.e ?_
     by_cases c19_3 : k2 < (((ro_o.length : Nat) : Int))
     ·rw [decide_eq_true c19_3]
      refine AWp.condT rfl rfl ?_
      refine AWp.skip (AWp.seq (AWp.block (AWp.seq ?_)))
      refine AWp.anyK pok [0, 1, 2, 3, 4, 5, 6, 7, 8, 9, 10, 11, 12, 13] (by kernel_rfl) (by kernel_rfl) rfl (fun x fr fr' h n hd _ q => ⟨hd ▸ q.1, q.2⟩) ?_
      refine dk.c (v := .pointer (some ⟨bp, 0, none⟩)) rfl (by kernel_rfl) rfl rfl rfl rfl ?_
      refine dk.c (v := .slice a_o (ro_o.length) c_o) rfl (by kernel_rfl) rfl rfl rfl rfl ?_
      refine dk.c (v := .int .i64 (k2)) rfl (by kernel_rfl) rfl rfl rfl rfl ?_
      have i143 : (0 : Int) ≤ (k2 : Int) := by omega
      obtain ⟨x144, hx_x144⟩ : ∃ x, (ro_o)[((k2 : Int)).toNat]? = some x := ⟨_, List.getElem?_eq_getElem (by omega)⟩
      obtain ⟨y_x144, hy_x144, hb_x144⟩ := D_o.at hx_x144
      obtain ⟨t_x144, ⟨a1_x144, n1_x144, c1_x144⟩, ⟨a2_x144, n2_x144, c2_x144⟩⟩ := x144
      obtain ⟨rfl, L_x144, M_x144⟩ := hb_x144
      obtain ⟨_, _, e1_x144⟩ := L_x144.slice
      cases e1_x144
      obtain ⟨_, _, e2_x144⟩ := M_x144.slice
      cases e2_x144
      obtain ⟨b137, o138, cs_b137, ow_b137, ci_b137, ie142, hb139, hc140, hr141⟩ := IsRow.at (P := Tryd.prog) (t := 38) (e := 45) (k := .i64) (by kernel_rfl) (by kernel_rfl) R_o.is i143 hx_x144
      refine dk.c (v := .pointer (some ⟨b137, o138, none⟩)) rfl (by kernel_rfl) rfl rfl ie142 rfl ?_
      refine dk.c (v := .pointer (some ⟨b137, o138, none⟩)) rfl (by kernel_rfl) rfl rfl (by kernel_rfl) rfl ?_
      refine dk.gB (v := .string (y_x144.1)) b137 rfl (by kernel_rfl) rfl rfl (fun _ q_ => (ld1 (P := Tryd.prog) (t := 9) (p := o138 + 0) (v := .string (y_x144.1)) (by kernel_rfl) (by kernel_rfl) (q_ _ hb139) (hc140 0 _ rfl))) rfl ?_
      refine dk.c (v := .slice a_o (ro_o.length) c_o) rfl (by kernel_rfl) rfl rfl rfl rfl ?_
      refine dk.c (v := .int .i64 (k2)) rfl (by kernel_rfl) rfl rfl rfl rfl ?_
      have i151 : (0 : Int) ≤ (k2 : Int) := by omega
      obtain ⟨b145, o146, cs_b145, ow_b145, ci_b145, ie150, hb147, hc148, hr149⟩ := IsRow.at (P := Tryd.prog) (t := 38) (e := 45) (k := .i64) (by kernel_rfl) (by kernel_rfl) R_o.is i151 hx_x144
      refine dk.c (v := .pointer (some ⟨b145, o146, none⟩)) rfl (by kernel_rfl) rfl rfl ie150 rfl ?_
      refine dk.c (v := .pointer (some ⟨b145, o146 + 1, none⟩)) rfl (by kernel_rfl) rfl rfl (by kernel_rfl) rfl ?_
      refine dk.c (v := .pointer (some ⟨b145, o146 + 1, none⟩)) rfl (by kernel_rfl) rfl rfl (by kernel_rfl) rfl ?_
      refine dk.gB (v := .slice a1_x144 (y_x144.2.1.length) c1_x144) b145 rfl (by kernel_rfl) rfl rfl (fun _ q_ => (ld1 (P := Tryd.prog) (t := 40) (p := o146 + 1) (v := .slice a1_x144 (y_x144.2.1.length) c1_x144) (by kernel_rfl) (by kernel_rfl) (q_ _ hb147) (hc148 1 _ rfl))) rfl ?_
      refine dk.k rfl (by kernel_rfl) rfl (CallsF.fn rfl (by kernel_rfl) rfl rfl) (findOnC (⟨hb_bp, hf_x, hg_x, okF_x, okG_x, hSp, ne_fp_gp⟩ : At _ R.st _ _ _ _ G_x) hPi2 hi61 y_x144.1 y_x144.2.1 L_x144.is ⟨(all_small hPi hi60 _ (List.mem_of_getElem? hy_x144)).1, (all_small hPi hi60 _ (List.mem_of_getElem? hy_x144)).2.1⟩) (keepC (by simp) (keepC (by simp) keepN)) ?_
      rintro _ h152 n153 ⟨a_m, c_m, rfl, R_m, K_m⟩ s154 hn2 hf
      change FRow encSmp _ (.slice a_m (wasOf R.S (y_x144.1, keyA y_x144.2.1)).length c_m) (wasOf R.S (y_x144.1, keyA y_x144.2.1)) at R_m
      refine dk.w ?_
      have hSw := hSw.keep (.of0 s154)
      have hSp := hSp.keep (.of0 s154)
      have W_x := W_x.keep (.of0 s154)
      have D_x := D_x.keep (.of0 s154)
      have R_e := R_e.keep (.of0 s154)
      have R_o := R_o.keep (.of0 s154)
      have D_o := D_o.keep (.of0 s154)
      have M_x144 := M_x144.keep (.of0 s154)
      have hb_bp := s154.sub _ _ hb_bp
      have hf_x := s154.sub _ _ hf_x
      have hg_x := s154.sub _ _ hg_x
      have hb_bw := s154.sub _ _ hb_bw
      have hb_fw := s154.sub _ _ hb_fw
      have hb_gw := s154.sub _ _ hb_gw
      have hb30 := s154.sub _ _ hb30
      have hs := hs.trans s154
      have hn := Nat.le_trans hn hn2
      refine dk.c (v := .slice a_m (wasOf R.S (y_x144.1, keyA y_x144.2.1)).length c_m) rfl (by kernel_rfl) rfl rfl rfl rfl ?_
      refine dk.e (AWp.seq (AWp.rowV (l := _) pok ?_))
      refine sq.c (v := .slice a_o (ro_o.length) c_o) rfl rfl rfl rfl ?_
      refine sq.c (v := .int .i64 (k2)) rfl rfl rfl rfl ?_
      have i161 : (0 : Int) ≤ (k2 : Int) := by omega
      obtain ⟨b155, o156, cs_b155, ow_b155, ci_b155, ie160, hb157, hc158, hr159⟩ := IsRow.at (P := Tryd.prog) (t := 38) (e := 45) (k := .i64) (by kernel_rfl) (by kernel_rfl) R_o.is i161 hx_x144
      refine sq.c (v := .pointer (some ⟨b155, o156, none⟩)) rfl rfl ie160 rfl ?_
      refine sq.c (v := .pointer (some ⟨b155, o156 + 1, none⟩)) rfl rfl (by kernel_rfl) rfl ?_
      refine sq.c (v := .pointer (some ⟨b155, o156 + 2, none⟩)) rfl rfl (by kernel_rfl) rfl ?_
      refine sq.c (v := .slice a2_x144 (y_x144.2.2.length) c2_x144) rfl rfl (ld1 (P := Tryd.prog) (t := 41) (p := o156 + 2) (v := .slice a2_x144 (y_x144.2.2.length) c2_x144) (by kernel_rfl) (by kernel_rfl) hb157 (hc158 2 _ rfl)) rfl ?_
      refine sq.c (v := .int .i64 (((y_x144.2.2.length : Nat) : Int))) rfl rfl (by kernel_rfl) rfl ?_
      refine sq.c (v := .int .i64 (((y_x144.2.2.length : Nat) : Int))) rfl rfl rfl rfl ?_
      refine sq.e (AWp.seq ?_)
      refine AWp.anyK pok [0, 1, 2, 3, 4, 5, 6, 7, 8, 9, 10, 11, 12, 13, 14, 15, 16] (by kernel_rfl) (by kernel_rfl) rfl (fun x fr fr' h n hd _ q => ⟨hd ▸ q.1, q.2⟩) ?_
      refine dk.c (v := .slice a_m (wasOf R.S (y_x144.1, keyA y_x144.2.1)).length c_m) rfl (by kernel_rfl) rfl rfl rfl rfl ?_
      refine dk.c (v := .int .i64 ((((wasOf R.S (y_x144.1, keyA y_x144.2.1)).length : Nat) : Int))) rfl (by kernel_rfl) rfl rfl (by kernel_rfl) rfl ?_
      refine dk.c (v := .int .i64 (((y_x144.2.2.length : Nat) : Int))) rfl (by kernel_rfl) rfl rfl rfl rfl ?_
      refine dk.c (v := .bool (decide (((((wasOf R.S (y_x144.1, keyA y_x144.2.1)).length : Nat) : Int)) < (((y_x144.2.2.length : Nat) : Int))))) rfl (by kernel_rfl) rfl rfl rfl rfl ?_
      refine dk.c (v := .bool (decide (((((wasOf R.S (y_x144.1, keyA y_x144.2.1)).length : Nat) : Int)) < (((y_x144.2.2.length : Nat) : Int))))) rfl (by kernel_rfl) rfl rfl rfl rfl ?_
      by_cases c23_3 : ((((wasOf R.S (y_x144.1, keyA y_x144.2.1)).length : Nat) : Int)) < (((y_x144.2.2.length : Nat) : Int))
      ·exfalso
       obtain ⟨zs_, hzs_⟩ := all_keeps hPi y_x22 (List.mem_of_getElem? hy_x144)
       rw [← hR] at hzs_
       rw [hzs_, List.length_append] at c23_3
       omega
      ·rw [decide_eq_false c23_3]
       refine dk.c (v := .slice a_m (wasOf R.S (y_x144.1, keyA y_x144.2.1)).length c_m) rfl (by kernel_rfl) (wantT (g := 4) (d := 166) rfl rfl rfl) rfl rfl rfl ?_
       refine dk.c (v := .int .i64 (((y_x144.2.2.length : Nat) : Int))) rfl (by kernel_rfl) (wantT (g := 4) (d := 166) rfl rfl rfl) rfl rfl rfl ?_
       have hle_ : y_x144.2.2.length ≤ (wasOf R.S (y_x144.1, keyA y_x144.2.1)).length := by obtain ⟨zs_, hzs_⟩ := all_keeps hPi y_x22 (List.mem_of_getElem? hy_x144); rw [← hR] at hzs_; rw [hzs_, List.length_append]; omega
       have T_m := FRow.take R_m hle_
       refine dk.gB (v := .slice a_m (y_x144.2.2.length) c_m) (blkA a_m) rfl (by kernel_rfl) (wantT (g := 4) (d := 166) rfl rfl rfl) rfl (fun _ q_ => (slice_take (E := encSmp) Tryd.underlying41 (by kernel_rfl) R_m K_m hle_ q_)) rfl ?_
       refine dk.c (v := .slice a_o (ro_o.length) c_o) rfl (by kernel_rfl) (wantT (g := 4) (d := 166) rfl rfl rfl) rfl rfl rfl ?_
       refine dk.c (v := .int .i64 (k2)) rfl (by kernel_rfl) (wantT (g := 4) (d := 166) rfl rfl rfl) rfl rfl rfl ?_
       have i168 : (0 : Int) ≤ (k2 : Int) := by omega
       obtain ⟨b162, o163, cs_b162, ow_b162, ci_b162, ie167, hb164, hc165, hr166⟩ := IsRow.at (P := Tryd.prog) (t := 38) (e := 45) (k := .i64) (by kernel_rfl) (by kernel_rfl) R_o.is i168 hx_x144
       refine dk.c (v := .pointer (some ⟨b162, o163, none⟩)) rfl (by kernel_rfl) (wantT (g := 4) (d := 166) rfl rfl rfl) rfl ie167 rfl ?_
       refine dk.c (v := .pointer (some ⟨b162, o163 + 1, none⟩)) rfl (by kernel_rfl) (wantT (g := 4) (d := 166) rfl rfl rfl) rfl (by kernel_rfl) rfl ?_
       refine dk.c (v := .pointer (some ⟨b162, o163 + 2, none⟩)) rfl (by kernel_rfl) (wantT (g := 4) (d := 166) rfl rfl rfl) rfl (by kernel_rfl) rfl ?_
       refine dk.gB (v := .slice a2_x144 (y_x144.2.2.length) c2_x144) b162 rfl (by kernel_rfl) (wantT (g := 4) (d := 166) rfl rfl rfl) rfl (fun _ q_ => (ld1 (P := Tryd.prog) (t := 41) (p := o163 + 2) (v := .slice a2_x144 (y_x144.2.2.length) c2_x144) (by kernel_rfl) (by kernel_rfl) (q_ _ hb164) (hc165 2 _ rfl))) rfl ?_
       have e_ln : ((wasOf R.S (y_x144.1, keyA y_x144.2.1)).take y_x144.2.2.length).length = y_x144.2.2.length := by rw [List.length_take]; omega
       refine dk.t (v := .bool (decide (((wasOf R.S (y_x144.1, keyA y_x144.2.1)).take y_x144.2.2.length) = y_x144.2.2))) rfl (by kernel_rfl) (wantT (g := 4) (d := 166) rfl rfl rfl) (CallsF.fn rfl (by kernel_rfl) rfl rfl) (fun hf => (by have q_ := samples_spec (n := n153) ((wasOf R.S (y_x144.1, keyA y_x144.2.1)).take y_x144.2.2.length) _ T_m.is M_x144.is (by rw [e_ln]; have := (all_small hPi hi60 _ (List.mem_of_getElem? hy_x144)).2.2.1; omega); rw [e_ln] at q_; exact q_)) hf rfl ?_
       intro n169 hn2 hf
       have hn := Nat.le_trans hn hn2
       rcases Bool.eq_false_or_eq_true (decide (((wasOf R.S (y_x144.1, keyA y_x144.2.1)).take y_x144.2.2.length) = y_x144.2.2)) with c23_14 | c23_14
       ·rw [c23_14]
        refine dk.c (v := .bool false) rfl (by kernel_rfl) (wantT (g := 4) (d := 166) rfl rfl rfl) rfl rfl rfl ?_
        refine dk.c (v := .bool false) rfl (by kernel_rfl) rfl rfl rfl rfl ?_
        refine dk.e ?_
        refine AWp.condF rfl rfl ?_
        refine AWp.skip (AWp.rowV (l := _) pok ?_)
        refine sq.c (v := .int .i64 (k2)) rfl rfl rfl rfl ?_
        refine sq.c (v := .int .i64 (k2 + 1)) rfl rfl (okI (wrap_i64 (by omega) (by omega))) rfl ?_
        refine sq.c (v := .int .i64 (k2 + 1)) rfl rfl rfl rfl ?_
        refine sq.e ?_
        refine ⟨_, _, rfl, (by omega), k2 + 1, rfl, hs, hn, hf, hb_bp, hf_x, hg_x, hb_bw, hb_fw, hb_gw, hSw, hSp, W_x, D_x, hb30, R_e, R_o, D_o, (by omega), (by omega), getV [undef, undef, (y134 2), undef, undef, undef, undef, undef, undef, undef, undef, undef, .slice a_m (wasOf R.S (y_x144.1, keyA y_x144.2.1)).length c_m, .int .i64 (((y_x144.2.2.length : Nat) : Int)), undef, undef, undef, undef, undef, undef, undef, undef, undef, undef, undef, undef, undef, undef, undef, undef, undef, undef, undef, undef, undef, undef, undef, undef, undef, undef, undef, undef, undef, undef, undef, undef, undef, undef, undef, undef, undef, undef, undef, undef, undef, undef, undef, undef, undef, undef, undef, undef, undef, undef, undef, undef, undef, undef, undef, undef, undef, undef, undef, undef, undef, undef, undef, undef, undef, undef, undef, undef, undef, undef, undef, undef, undef, undef, undef, undef, undef, undef, undef, undef, undef, undef, undef, undef, undef, undef, undef, undef, undef, undef, undef, undef, undef, undef, undef, undef, undef, undef, undef, undef, undef, undef, undef, undef, undef, undef, undef, undef, undef, undef, undef, undef, undef, undef, undef, undef, undef, undef, undef, undef, undef, undef, .int .i64 (k2), .slice a_o (ro_o.length) c_o, .int .i64 (((ro_o.length : Nat) : Int)), .bool true, .int .i64 (k2), .int .i64 (k2 + 1), .pointer (some ⟨bp, 0, none⟩), .slice a_o (ro_o.length) c_o, .int .i64 (k2), .pointer (some ⟨b137, o138, none⟩), .pointer (some ⟨b137, o138, none⟩), .string (y_x144.1), .slice a_o (ro_o.length) c_o, .int .i64 (k2), .pointer (some ⟨b145, o146, none⟩), .pointer (some ⟨b145, o146 + 1, none⟩), .pointer (some ⟨b145, o146 + 1, none⟩), .slice a1_x144 (y_x144.2.1.length) c1_x144, .slice a_m (wasOf R.S (y_x144.1, keyA y_x144.2.1)).length c_m, .slice a_o (ro_o.length) c_o, .int .i64 (k2), .pointer (some ⟨b155, o156, none⟩), .pointer (some ⟨b155, o156 + 1, none⟩), .pointer (some ⟨b155, o156 + 2, none⟩), .slice a2_x144 (y_x144.2.2.length) c2_x144, .int .i64 (((y_x144.2.2.length : Nat) : Int)), .slice a_m (wasOf R.S (y_x144.1, keyA y_x144.2.1)).length c_m, .int .i64 ((((wasOf R.S (y_x144.1, keyA y_x144.2.1)).length : Nat) : Int)), .int .i64 (((y_x144.2.2.length : Nat) : Int)), .bool false, .bool false, .slice a_m (wasOf R.S (y_x144.1, keyA y_x144.2.1)).length c_m, .int .i64 (((y_x144.2.2.length : Nat) : Int)), .slice a_m (y_x144.2.2.length) c_m, .slice a_o (ro_o.length) c_o, .int .i64 (k2), .pointer (some ⟨b162, o163, none⟩), .pointer (some ⟨b162, o163 + 1, none⟩), .pointer (some ⟨b162, o163 + 2, none⟩), .slice a2_x144 (y_x144.2.2.length) c2_x144, .bool true, .bool false, .bool false], rfl⟩
       ·exfalso
        obtain ⟨zs_, hzs_⟩ := all_keeps hPi y_x22 (List.mem_of_getElem? hy_x144)
        rw [← hR] at hzs_
        exact absurd c23_14 (by rw [hzs_, List.take_left, decide_eq_true rfl]; simp)
     ·rw [decide_eq_false c19_3]
      refine AWp.condF rfl rfl ?_
      refine AWp.exit ?_
      refine AWp.seq (AWp.rowV (l := _) pok ?_)
      refine sq.c (v := .pointer (some ⟨bp, 0, none⟩)) rfl rfl rfl rfl ?_
      refine sq.k rfl (CallsF.fn rfl (by kernel_rfl) rfl rfl) (allOn (⟨hb_bp, hf_x, hg_x, okF_x, okG_x, hSp, ne_fp_gp⟩ : At _ R.st _ _ _ _ G_x) hPi2 hi61) ?_
      rintro _ h170 n171 ⟨ro_u, R_u, D_u⟩ s172 hn2 hf
      obtain ⟨a_u, c_u, rfl⟩ := R_u.slice
      refine sq.w ?_
      have hSw := hSw.keep (.of0 s172)
      have hSp := hSp.keep (.of0 s172)
      have W_x := W_x.keep (.of0 s172)
      have D_x := D_x.keep (.of0 s172)
      have R_e := R_e.keep (.of0 s172)
      have R_o := R_o.keep (.of0 s172)
      have D_o := D_o.keep (.of0 s172)
      have hb_bp := s172.sub _ _ hb_bp
      have hf_x := s172.sub _ _ hf_x
      have hg_x := s172.sub _ _ hg_x
      have hb_bw := s172.sub _ _ hb_bw
      have hb_fw := s172.sub _ _ hb_fw
      have hb_gw := s172.sub _ _ hb_gw
      have hb30 := s172.sub _ _ hb30
      have hs := hs.trans s172
      have hn := Nat.le_trans hn hn2
      change FOwns _ ro_u (allV R.S) at D_u
      refine sq.c (v := .slice a_u (ro_u.length) c_u) rfl rfl rfl rfl ?_
      refine sq.e (AWp.seq (AWp.rowV (l := _) pok ?_))
      refine sq.c (v := .int .i64 (0)) rfl rfl rfl rfl ?_
      refine sq.e (AWp.block ?_)
      refine AWp.loopV (fun d vs h174 n175 => ∃ (k3 : Int), d = ((ro_u.length : Nat) - k3 + 1).toNat ∧ SubBut h h174 ([]) ∧ n ≤ n175 ∧ Free h174 n175 ∧ h174.get bp = some (.cells [.map (some fp), .map (some gp)] true ⟨69, 0, true⟩) ∧ h174.get fp = some (.map (mapE plV intV R.F) R.kf) ∧ h174.get gp = some (.map (mapE plV ownV G_x) R.kg) ∧ h174.get bw = some (.cells [.map (some fw), .map (some gw)] true ⟨69, 0, true⟩) ∧ h174.get fw = some (.map (mapE plV intV P.F) P.kf) ∧ h174.get gw = some (.map (mapE plV ownV Gp) P.kg) ∧ SMIs h174 Gp P.S ∧ SMIs h174 G_x R.S ∧ FRow encSer h174 (.slice a_x (os_x.length) c_x) (os_x) ∧ FSers h174 os_x R.kb.ser ∧ h174.get n24 = some (.cells [.string (R.kb.ten), .string (R.kb.clu), .int .i64 (R.kb.epo), .slice a_x (os_x.length) c_x, .int .i64 (R.bad), .bool (R.rose)] true ⟨33, 0, true⟩) ∧ FRow encFen h174 (.slice a_e (fencesV P.F).length c_e) ((fencesV P.F)) ∧ FRow encOwn h174 (.slice a_o (ro_o.length) c_o) (ro_o) ∧ FOwns h174 ro_o (allV P.S) ∧ FRow encOwn h174 (.slice a_u (ro_u.length) c_u) (ro_u) ∧ FOwns h174 ro_u (allV R.S) ∧ (0 ≤ k3) ∧ (k3 ≤ (ro_u.length : Nat)) ∧ ∃ y173 : Nat → Value, vs = [.slice a (rs.length) cp, undef, (y173 2), .pointer (some ⟨bp, 0, none⟩), .int .i64 (i), .pointer (some ⟨bw, 0, none⟩), .pointer (some ⟨n24, 0, none⟩), .int .i64 (R.e), .slice a_e (fencesV P.F).length c_e, .int .i64 (k), .slice a_o (ro_o.length) c_o, .int .i64 (k2), (y134 12), (y134 13), .slice a_u (ro_u.length) c_u, .int .i64 (k3), (y173 16), (y173 17), .slice a (rs.length) cp, .bool false, .bool false, .bool true, .bool false, .bool false, undef, .pointer (some ⟨bp, 0, none⟩), .int .i64 (i), .slice a (rs.length) cp, .int .i64 (((rs.length : Nat) : Int)), .bool true, (y9 30), (y9 31), .pointer (some ⟨bp, 0, none⟩), .pointer (some ⟨bw, 0, none⟩), .tuple #[.agg #[.string (R.kb.ten), .string (R.kb.clu), .int .i64 (R.kb.epo), .slice a_x (os_x.length) c_x, .int .i64 (R.bad), .bool (R.rose)], .int .i64 (R.e)], .pointer (some ⟨bp, 0, none⟩), .slice a (rs.length) cp, .int .i64 (i), .pointer (some ⟨b15, o16, none⟩), .agg #[.string (y_x22.ten), .string (y_x22.clu), .int .i64 (y_x22.epo), .slice a_x22 (rs_x22.length) c_x22], .tuple #[.agg #[.string (R.kb.ten), .string (R.kb.clu), .int .i64 (R.kb.epo), .slice a_x (os_x.length) c_x, .int .i64 (R.bad), .bool (R.rose)], .int .i64 (R.e)], .agg #[.string (R.kb.ten), .string (R.kb.clu), .int .i64 (R.kb.epo), .slice a_x (os_x.length) c_x, .int .i64 (R.bad), .bool (R.rose)], .int .i64 (R.e), .pointer (some ⟨bw, 0, none⟩), .slice a_e (fencesV P.F).length c_e, .int .i64 (k), .slice a_e (fencesV P.F).length c_e, .int .i64 ((((fencesV P.F).length : Nat) : Int)), .bool false, (y37 49), (y37 50), (y37 51), (y37 52), (y37 53), (y37 54), (y37 55), (y37 56), (y37 57), (y37 58), (y37 59), (y37 60), (y37 61), (y37 62), (y37 63), (y37 64), (y37 65), (y37 66), (y37 67), (y37 68), (y63 69), (y63 70), (y63 71), (y63 72), (y63 73), (y63 74), (y63 75), (y63 76), (y63 77), (y63 78), (y63 79), (y63 80), (y63 81), (y63 82), (y63 83), (y63 84), (y63 85), (y63 86), (y63 87), (y63 88), (y63 89), (y63 90), (y63 91), (y63 92), (y63 93), (y63 94), (y63 95), (y63 96), (y63 97), (y63 98), (y63 99), (y63 100), (y63 101), (y63 102), (y63 103), (y63 104), (y63 105), (y63 106), (y63 107), (y63 108), (y63 109), (y63 110), (y63 111), (y63 112), (y63 113), (y63 114), (y63 115), (y63 116), (y63 117), (y63 118), (y63 119), (y63 120), (y63 121), (y63 122), (y63 123), (y63 124), (y63 125), (y63 126), (y63 127), (y63 128), (y63 129), (y63 130), (y63 131), (y63 132), .bool false, .pointer (some ⟨bw, 0, none⟩), .slice a_o (ro_o.length) c_o, .int .i64 (k2), .slice a_o (ro_o.length) c_o, .int .i64 (((ro_o.length : Nat) : Int)), .bool false, (y134 140), (y134 141), (y134 142), (y134 143), (y134 144), (y134 145), (y134 146), (y134 147), (y134 148), (y134 149), (y134 150), (y134 151), (y134 152), (y134 153), (y134 154), (y134 155), (y134 156), (y134 157), (y134 158), (y134 159), (y134 160), (y134 161), (y134 162), (y134 163), (y134 164), (y134 165), (y134 166), (y134 167), (y134 168), (y134 169), (y134 170), (y134 171), (y134 172), (y134 173), (y134 174), (y134 175), (y134 176), (y134 177), (y134 178), .pointer (some ⟨bp, 0, none⟩), .slice a_u (ro_u.length) c_u, (y173 181), (y173 182), (y173 183), (y173 184), (y173 185), (y173 186), (y173 187), (y173 188), (y173 189), (y173 190), (y173 191), (y173 192), (y173 193), (y173 194), (y173 195), (y173 196), (y173 197), (y173 198), (y173 199), (y173 200), (y173 201), (y173 202), (y173 203), (y173 204), (y173 205), (y173 206), (y173 207), (y173 208), (y173 209), (y173 210), (y173 211), (y173 212), (y173 213), (y173 214), (y173 215), (y173 216), (y173 217), (y173 218), (y173 219), (y173 220), (y173 221), (y173 222), (y173 223), (y173 224), (y173 225), (y173 226), (y173 227), (y173 228), (y173 229), (y173 230), (y173 231), (y173 232), (y173 233)]) (((ro_u.length : Nat) - (0 : Int) + 1).toNat) ⟨0, rfl, hs, hn, hf, hb_bp, hf_x, hg_x, hb_bw, hb_fw, hb_gw, hSw, hSp, W_x, D_x, hb30, R_e, R_o, D_o, R_u, D_u, (by omega), (by omega), getV [undef, undef, (y134 2), undef, undef, undef, undef, undef, undef, undef, undef, undef, undef, undef, undef, undef, (y9 16), (y9 17), undef, undef, undef, undef, undef, undef, undef, undef, undef, undef, undef, undef, undef, undef, undef, undef, undef, undef, undef, undef, undef, undef, undef, undef, undef, undef, undef, undef, undef, undef, undef, undef, undef, undef, undef, undef, undef, undef, undef, undef, undef, undef, undef, undef, undef, undef, undef, undef, undef, undef, undef, undef, undef, undef, undef, undef, undef, undef, undef, undef, undef, undef, undef, undef, undef, undef, undef, undef, undef, undef, undef, undef, undef, undef, undef, undef, undef, undef, undef, undef, undef, undef, undef, undef, undef, undef, undef, undef, undef, undef, undef, undef, undef, undef, undef, undef, undef, undef, undef, undef, undef, undef, undef, undef, undef, undef, undef, undef, undef, undef, undef, undef, undef, undef, undef, undef, undef, undef, undef, undef, undef, undef, undef, undef, undef, undef, undef, undef, undef, undef, undef, undef, undef, undef, undef, undef, undef, undef, undef, undef, undef, undef, undef, undef, undef, undef, undef, undef, undef, undef, undef, undef, undef, undef, undef, undef, undef, undef, undef, undef, undef, undef, undef, (y9 181), (y9 182), (y9 183), (y9 184), (y9 185), (y9 186), (y9 187), (y9 188), (y9 189), (y9 190), (y9 191), (y9 192), (y9 193), (y9 194), (y9 195), (y9 196), (y9 197), (y9 198), (y9 199), (y9 200), (y9 201), (y9 202), (y9 203), (y9 204), (y9 205), (y9 206), (y9 207), (y9 208), (y9 209), (y9 210), (y9 211), (y9 212), (y9 213), (y9 214), (y9 215), (y9 216), (y9 217), (y9 218), (y9 219), (y9 220), (y9 221), (y9 222), (y9 223), (y9 224), (y9 225), (y9 226), (y9 227), (y9 228), (y9 229), (y9 230), (y9 231), (y9 232), (y9 233)], rfl⟩ ?_
      rintro d vs h174 n175 ⟨k3, rfl, hs, hn, hf, hb_bp, hf_x, hg_x, hb_bw, hb_fw, hb_gw, hSw, hSp, W_x, D_x, hb30, R_e, R_o, D_o, R_u, D_u, hk30, hk31, y173, rfl⟩
      have hrl3 := D_u.1
      rw [allV_len] at hrl3
      have hls3 : R.S.length ≤ 1200 * (i.toNat + 1) := hPi2.lenS
      refine AWp.seq (AWp.seq (AWp.rowV (l := _) pok ?_))
      refine sq.c (v := .int .i64 (k3)) rfl rfl rfl rfl ?_
      refine sq.c (v := .slice a_u (ro_u.length) c_u) rfl rfl rfl rfl ?_
      refine sq.c (v := .int .i64 (((ro_u.length : Nat) : Int))) rfl rfl (by kernel_rfl) rfl ?_
      refine sq.c (v := .bool (decide (k3 < (((ro_u.length : Nat) : Int))))) rfl rfl rfl rfl ?_
      refine sq.e ?_
      by_cases c27_3 : k3 < (((ro_u.length : Nat) : Int))
      ·rw [decide_eq_true c27_3]
       refine AWp.condT rfl rfl ?_
       refine AWp.skip (AWp.seq (AWp.block (AWp.seq (AWp.rowV (l := _) pok ?_))))
       refine sq.c (v := .slice a_u (ro_u.length) c_u) rfl rfl rfl rfl ?_
       refine sq.c (v := .int .i64 (k3)) rfl rfl rfl rfl ?_
       have i182 : (0 : Int) ≤ (k3 : Int) := by omega
       obtain ⟨x183, hx_x183⟩ : ∃ x, (ro_u)[((k3 : Int)).toNat]? = some x := ⟨_, List.getElem?_eq_getElem (by omega)⟩
       obtain ⟨y_x183, hy_x183, hb_x183⟩ := D_u.at hx_x183
       obtain ⟨t_x183, ⟨a1_x183, n1_x183, c1_x183⟩, ⟨a2_x183, n2_x183, c2_x183⟩⟩ := x183
       obtain ⟨rfl, L_x183, M_x183⟩ := hb_x183
       obtain ⟨_, _, e1_x183⟩ := L_x183.slice
       cases e1_x183
       obtain ⟨_, _, e2_x183⟩ := M_x183.slice
       cases e2_x183
       obtain ⟨b176, o177, cs_b176, ow_b176, ci_b176, ie181, hb178, hc179, hr180⟩ := IsRow.at (P := Tryd.prog) (t := 38) (e := 45) (k := .i64) (by kernel_rfl) (by kernel_rfl) R_u.is i182 hx_x183
       refine sq.c (v := .pointer (some ⟨b176, o177, none⟩)) rfl rfl ie181 rfl ?_
       refine sq.c (v := .pointer (some ⟨b176, o177 + 1, none⟩)) rfl rfl (by kernel_rfl) rfl ?_
       refine sq.c (v := .pointer (some ⟨b176, o177 + 2, none⟩)) rfl rfl (by kernel_rfl) rfl ?_
       refine sq.c (v := .slice a2_x183 (y_x183.2.2.length) c2_x183) rfl rfl (ld1 (P := Tryd.prog) (t := 41) (p := o177 + 2) (v := .slice a2_x183 (y_x183.2.2.length) c2_x183) (by kernel_rfl) (by kernel_rfl) hb178 (hc179 2 _ rfl)) rfl ?_
       refine sq.c (v := .slice a2_x183 (y_x183.2.2.length) c2_x183) rfl rfl rfl rfl ?_
       refine sq.e (AWp.seq (AWp.seq (AWp.rowV (l := _) pok ?_)))
       refine sq.c (v := .int .i64 (0)) rfl rfl rfl rfl ?_
       refine sq.e (AWp.block ?_)
       refine AWp.loopV (fun d vs h185 n186 => ∃ (m3 : Int), d = ((y_x183.2.2.length : Nat) - m3 + 1).toNat ∧ SubBut h h185 ([]) ∧ n ≤ n186 ∧ Free h185 n186 ∧ h185.get bp = some (.cells [.map (some fp), .map (some gp)] true ⟨69, 0, true⟩) ∧ h185.get fp = some (.map (mapE plV intV R.F) R.kf) ∧ h185.get gp = some (.map (mapE plV ownV G_x) R.kg) ∧ h185.get bw = some (.cells [.map (some fw), .map (some gw)] true ⟨69, 0, true⟩) ∧ h185.get fw = some (.map (mapE plV intV P.F) P.kf) ∧ h185.get gw = some (.map (mapE plV ownV Gp) P.kg) ∧ SMIs h185 Gp P.S ∧ SMIs h185 G_x R.S ∧ FRow encSer h185 (.slice a_x (os_x.length) c_x) (os_x) ∧ FSers h185 os_x R.kb.ser ∧ h185.get n24 = some (.cells [.string (R.kb.ten), .string (R.kb.clu), .int .i64 (R.kb.epo), .slice a_x (os_x.length) c_x, .int .i64 (R.bad), .bool (R.rose)] true ⟨33, 0, true⟩) ∧ FRow encFen h185 (.slice a_e (fencesV P.F).length c_e) ((fencesV P.F)) ∧ FRow encOwn h185 (.slice a_o (ro_o.length) c_o) (ro_o) ∧ FOwns h185 ro_o (allV P.S) ∧ FRow encOwn h185 (.slice a_u (ro_u.length) c_u) (ro_u) ∧ FOwns h185 ro_u (allV R.S) ∧ FRow encLab h185 (.slice a1_x183 (y_x183.2.1.length) c1_x183) (y_x183.2.1) ∧ FRow encSmp h185 (.slice a2_x183 (y_x183.2.2.length) c2_x183) (y_x183.2.2) ∧ (0 ≤ m3) ∧ (m3 ≤ (y_x183.2.2.length : Nat)) ∧ ∃ y184 : Nat → Value, vs = [.slice a (rs.length) cp, undef, (y184 2), .pointer (some ⟨bp, 0, none⟩), .int .i64 (i), .pointer (some ⟨bw, 0, none⟩), .pointer (some ⟨n24, 0, none⟩), .int .i64 (R.e), .slice a_e (fencesV P.F).length c_e, .int .i64 (k), .slice a_o (ro_o.length) c_o, .int .i64 (k2), (y134 12), (y134 13), .slice a_u (ro_u.length) c_u, .int .i64 (k3), .slice a2_x183 (y_x183.2.2.length) c2_x183, .int .i64 (m3), .slice a (rs.length) cp, .bool false, .bool false, .bool true, .bool false, .bool false, undef, .pointer (some ⟨bp, 0, none⟩), .int .i64 (i), .slice a (rs.length) cp, .int .i64 (((rs.length : Nat) : Int)), .bool true, (y9 30), (y9 31), .pointer (some ⟨bp, 0, none⟩), .pointer (some ⟨bw, 0, none⟩), .tuple #[.agg #[.string (R.kb.ten), .string (R.kb.clu), .int .i64 (R.kb.epo), .slice a_x (os_x.length) c_x, .int .i64 (R.bad), .bool (R.rose)], .int .i64 (R.e)], .pointer (some ⟨bp, 0, none⟩), .slice a (rs.length) cp, .int .i64 (i), .pointer (some ⟨b15, o16, none⟩), .agg #[.string (y_x22.ten), .string (y_x22.clu), .int .i64 (y_x22.epo), .slice a_x22 (rs_x22.length) c_x22], .tuple #[.agg #[.string (R.kb.ten), .string (R.kb.clu), .int .i64 (R.kb.epo), .slice a_x (os_x.length) c_x, .int .i64 (R.bad), .bool (R.rose)], .int .i64 (R.e)], .agg #[.string (R.kb.ten), .string (R.kb.clu), .int .i64 (R.kb.epo), .slice a_x (os_x.length) c_x, .int .i64 (R.bad), .bool (R.rose)], .int .i64 (R.e), .pointer (some ⟨bw, 0, none⟩), .slice a_e (fencesV P.F).length c_e, .int .i64 (k), .slice a_e (fencesV P.F).length c_e, .int .i64 ((((fencesV P.F).length : Nat) : Int)), .bool false, (y37 49), (y37 50), (y37 51), (y37 52), (y37 53), (y37 54), (y37 55), (y37 56), (y37 57), (y37 58), (y37 59), (y37 60), (y37 61), (y37 62), (y37 63), (y37 64), (y37 65), (y37 66), (y37 67), (y37 68), (y63 69), (y63 70), (y63 71), (y63 72), (y63 73), (y63 74), (y63 75), (y63 76), (y63 77), (y63 78), (y63 79), (y63 80), (y63 81), (y63 82), (y63 83), (y63 84), (y63 85), (y63 86), (y63 87), (y63 88), (y63 89), (y63 90), (y63 91), (y63 92), (y63 93), (y63 94), (y63 95), (y63 96), (y63 97), (y63 98), (y63 99), (y63 100), (y63 101), (y63 102), (y63 103), (y63 104), (y63 105), (y63 106), (y63 107), (y63 108), (y63 109), (y63 110), (y63 111), (y63 112), (y63 113), (y63 114), (y63 115), (y63 116), (y63 117), (y63 118), (y63 119), (y63 120), (y63 121), (y63 122), (y63 123), (y63 124), (y63 125), (y63 126), (y63 127), (y63 128), (y63 129), (y63 130), (y63 131), (y63 132), .bool false, .pointer (some ⟨bw, 0, none⟩), .slice a_o (ro_o.length) c_o, .int .i64 (k2), .slice a_o (ro_o.length) c_o, .int .i64 (((ro_o.length : Nat) : Int)), .bool false, (y134 140), (y134 141), (y134 142), (y134 143), (y134 144), (y134 145), (y134 146), (y134 147), (y134 148), (y134 149), (y134 150), (y134 151), (y134 152), (y134 153), (y134 154), (y134 155), (y134 156), (y134 157), (y134 158), (y134 159), (y134 160), (y134 161), (y134 162), (y134 163), (y134 164), (y134 165), (y134 166), (y134 167), (y134 168), (y134 169), (y134 170), (y134 171), (y134 172), (y134 173), (y134 174), (y134 175), (y134 176), (y134 177), (y134 178), .pointer (some ⟨bp, 0, none⟩), .slice a_u (ro_u.length) c_u, .int .i64 (k3), .slice a_u (ro_u.length) c_u, .int .i64 (((ro_u.length : Nat) : Int)), .bool true, (y173 185), (y173 186), .slice a_u (ro_u.length) c_u, .int .i64 (k3), .pointer (some ⟨b176, o177, none⟩), .pointer (some ⟨b176, o177 + 1, none⟩), .pointer (some ⟨b176, o177 + 2, none⟩), .slice a2_x183 (y_x183.2.2.length) c2_x183, (y184 193), (y184 194), (y184 195), (y184 196), (y184 197), (y184 198), (y184 199), (y184 200), (y184 201), (y184 202), (y184 203), (y184 204), (y184 205), (y184 206), (y184 207), (y184 208), (y184 209), (y184 210), (y184 211), (y184 212), (y184 213), (y184 214), (y184 215), (y184 216), (y184 217), (y184 218), (y184 219), (y184 220), (y184 221), (y184 222), (y184 223), (y184 224), (y184 225), (y184 226), (y184 227), (y184 228), (y184 229), (y184 230), (y173 231), (y173 232), (y173 233)]) (((y_x183.2.2.length : Nat) - (0 : Int) + 1).toNat) ⟨0, rfl, hs, hn, hf, hb_bp, hf_x, hg_x, hb_bw, hb_fw, hb_gw, hSw, hSp, W_x, D_x, hb30, R_e, R_o, D_o, R_u, D_u, L_x183, M_x183, (by omega), (by omega), getV [undef, undef, (y173 2), undef, undef, undef, undef, undef, undef, undef, undef, undef, undef, undef, undef, undef, undef, undef, undef, undef, undef, undef, undef, undef, undef, undef, undef, undef, undef, undef, undef, undef, undef, undef, undef, undef, undef, undef, undef, undef, undef, undef, undef, undef, undef, undef, undef, undef, undef, undef, undef, undef, undef, undef, undef, undef, undef, undef, undef, undef, undef, undef, undef, undef, undef, undef, undef, undef, undef, undef, undef, undef, undef, undef, undef, undef, undef, undef, undef, undef, undef, undef, undef, undef, undef, undef, undef, undef, undef, undef, undef, undef, undef, undef, undef, undef, undef, undef, undef, undef, undef, undef, undef, undef, undef, undef, undef, undef, undef, undef, undef, undef, undef, undef, undef, undef, undef, undef, undef, undef, undef, undef, undef, undef, undef, undef, undef, undef, undef, undef, undef, undef, undef, undef, undef, undef, undef, undef, undef, undef, undef, undef, undef, undef, undef, undef, undef, undef, undef, undef, undef, undef, undef, undef, undef, undef, undef, undef, undef, undef, undef, undef, undef, undef, undef, undef, undef, undef, undef, undef, undef, undef, undef, undef, undef, undef, undef, undef, undef, undef, undef, undef, undef, undef, undef, undef, undef, undef, undef, undef, undef, undef, undef, (y173 193), (y173 194), (y173 195), (y173 196), (y173 197), (y173 198), (y173 199), (y173 200), (y173 201), (y173 202), (y173 203), (y173 204), (y173 205), (y173 206), (y173 207), (y173 208), (y173 209), (y173 210), (y173 211), (y173 212), (y173 213), (y173 214), (y173 215), (y173 216), (y173 217), (y173 218), (y173 219), (y173 220), (y173 221), (y173 222), (y173 223), (y173 224), (y173 225), (y173 226), (y173 227), (y173 228), (y173 229), (y173 230)], rfl⟩ ?_
       rintro d vs h185 n186 ⟨m3, rfl, hs, hn, hf, hb_bp, hf_x, hg_x, hb_bw, hb_fw, hb_gw, hSw, hSp, W_x, D_x, hb30, R_e, R_o, D_o, R_u, D_u, L_x183, M_x183, hm30, hm31, y184, rfl⟩
       have hml := (all_one hPi2.inv (List.mem_of_getElem? hy_x183)).2.1
       refine AWp.seq (AWp.seq (AWp.rowV (l := _) pok ?_))
       refine sq.c (v := .int .i64 (m3)) rfl rfl rfl rfl ?_
       refine sq.c (v := .slice a2_x183 (y_x183.2.2.length) c2_x183) rfl rfl rfl rfl ?_
       refine sq.c (v := .int .i64 (((y_x183.2.2.length : Nat) : Int))) rfl rfl (by kernel_rfl) rfl ?_
       refine sq.c (v := .bool (decide (m3 < (((y_x183.2.2.length : Nat) : Int))))) rfl rfl rfl rfl ?_
       refine sq.e ?_
       by_cases c31_3 : m3 < (((y_x183.2.2.length : Nat) : Int))
       ·rw [decide_eq_true c31_3]
        refine AWp.condT rfl rfl ?_
        refine AWp.skip (AWp.seq (AWp.block (AWp.seq ?_)))
        refine AWp.anyK pok [0, 1, 2, 3, 4, 5, 6, 7, 8, 9, 10, 11, 12, 13, 14, 15, 16, 17, 18, 19, 20, 21, 22, 23, 24, 25, 26, 27, 28, 29, 30, 31] (by kernel_rfl) (by kernel_rfl) rfl (fun x fr fr' h n hd _ q => ⟨hd ▸ q.1, q.2⟩) ?_
        refine dk.c (v := .int .i64 (m3)) rfl (by kernel_rfl) rfl rfl rfl rfl ?_
        refine dk.c (v := .bool (decide ((0 : Int) < m3))) rfl (by kernel_rfl) rfl rfl rfl rfl ?_
        refine dk.c (v := .bool (decide ((0 : Int) < m3))) rfl (by kernel_rfl) rfl rfl rfl rfl ?_
        by_cases c33_1 : (0 : Int) < m3
        ·rw [decide_eq_true c33_1]
         refine dk.c (v := .slice a2_x183 (y_x183.2.2.length) c2_x183) rfl (by kernel_rfl) (wantT (g := 2) (d := 201) rfl rfl rfl) rfl rfl rfl ?_
         refine dk.c (v := .int .i64 (m3)) rfl (by kernel_rfl) (wantT (g := 2) (d := 201) rfl rfl rfl) rfl rfl rfl ?_
         have i193 : (0 : Int) ≤ (m3 : Int) := by omega
         obtain ⟨x194, hx_x194⟩ : ∃ x, (y_x183.2.2)[((m3 : Int)).toNat]? = some x := ⟨_, List.getElem?_eq_getElem (by omega)⟩
         obtain ⟨b187, o188, cs_b187, ow_b187, ci_b187, ie192, hb189, hc190, hr191⟩ := IsRow.at (P := Tryd.prog) (t := 41) (e := 53) (k := .i64) (by kernel_rfl) (by kernel_rfl) M_x183.is i193 hx_x194
         refine dk.c (v := .pointer (some ⟨b187, o188, none⟩)) rfl (by kernel_rfl) (wantT (g := 2) (d := 201) rfl rfl rfl) rfl ie192 rfl ?_
         refine dk.c (v := .pointer (some ⟨b187, o188, none⟩)) rfl (by kernel_rfl) (wantT (g := 2) (d := 201) rfl rfl rfl) rfl (by kernel_rfl) rfl ?_
         refine dk.gB (v := .int .i64 (x194.1)) b187 rfl (by kernel_rfl) (wantT (g := 2) (d := 201) rfl rfl rfl) rfl (fun _ q_ => (ld1 (P := Tryd.prog) (t := 2) (p := o188 + 0) (v := .int .i64 (x194.1)) (by kernel_rfl) (by kernel_rfl) (q_ _ hb189) (hc190 0 _ rfl))) rfl ?_
         refine dk.c (v := .slice a2_x183 (y_x183.2.2.length) c2_x183) rfl (by kernel_rfl) (wantT (g := 2) (d := 201) rfl rfl rfl) rfl rfl rfl ?_
         refine dk.c (v := .int .i64 (m3)) rfl (by kernel_rfl) (wantT (g := 2) (d := 201) rfl rfl rfl) rfl rfl rfl ?_
         refine dk.c (v := .int .i64 (m3 - 1)) rfl (by kernel_rfl) (wantT (g := 2) (d := 201) rfl rfl rfl) rfl (okI (wrap_i64 (by omega) (by omega))) rfl ?_
         have i201 : (0 : Int) ≤ (m3 - 1 : Int) := by omega
         obtain ⟨x202, hx_x202⟩ : ∃ x, (y_x183.2.2)[((m3 - 1 : Int)).toNat]? = some x := ⟨_, List.getElem?_eq_getElem (by omega)⟩
         obtain ⟨b195, o196, cs_b195, ow_b195, ci_b195, ie200, hb197, hc198, hr199⟩ := IsRow.at (P := Tryd.prog) (t := 41) (e := 53) (k := .i64) (by kernel_rfl) (by kernel_rfl) M_x183.is i201 hx_x202
         refine dk.c (v := .pointer (some ⟨b195, o196, none⟩)) rfl (by kernel_rfl) (wantT (g := 2) (d := 201) rfl rfl rfl) rfl ie200 rfl ?_
         refine dk.c (v := .pointer (some ⟨b195, o196, none⟩)) rfl (by kernel_rfl) (wantT (g := 2) (d := 201) rfl rfl rfl) rfl (by kernel_rfl) rfl ?_
         refine dk.gB (v := .int .i64 (x202.1)) b195 rfl (by kernel_rfl) (wantT (g := 2) (d := 201) rfl rfl rfl) rfl (fun _ q_ => (ld1 (P := Tryd.prog) (t := 2) (p := o196 + 0) (v := .int .i64 (x202.1)) (by kernel_rfl) (by kernel_rfl) (q_ _ hb197) (hc198 0 _ rfl))) rfl ?_
         refine dk.c (v := .bool (decide (x194.1 ≤ x202.1))) rfl (by kernel_rfl) (wantT (g := 2) (d := 201) rfl rfl rfl) rfl rfl rfl ?_
         refine dk.c (v := .bool (decide (x194.1 ≤ x202.1))) rfl (by kernel_rfl) rfl rfl rfl rfl ?_
         refine dk.c (v := .bool (decide (x194.1 ≤ x202.1))) rfl (by kernel_rfl) rfl rfl rfl rfl ?_
         by_cases c33_14 : x194.1 ≤ x202.1
         ·exfalso
          have hone := all_one hPi2.inv (List.mem_of_getElem? hy_x183)
          have hlt := rise_lt (mayS_iff.1 hone.1).2 (i := (m3 - 1).toNat) (j := m3.toNat) (by omega) hx_x202 hx_x194
          omega
         ·rw [decide_eq_false c33_14]
          refine dk.c (v := .slice a2_x183 (y_x183.2.2.length) c2_x183) rfl (by kernel_rfl) (wantT (g := 16) (d := 215) rfl rfl rfl) rfl rfl rfl ?_
          refine dk.c (v := .int .i64 (m3)) rfl (by kernel_rfl) (wantT (g := 16) (d := 215) rfl rfl rfl) rfl rfl rfl ?_
          have i209 : (0 : Int) ≤ (m3 : Int) := by omega
          obtain ⟨b203, o204, cs_b203, ow_b203, ci_b203, ie208, hb205, hc206, hr207⟩ := IsRow.at (P := Tryd.prog) (t := 41) (e := 53) (k := .i64) (by kernel_rfl) (by kernel_rfl) M_x183.is i209 hx_x194
          refine dk.c (v := .pointer (some ⟨b203, o204, none⟩)) rfl (by kernel_rfl) (wantT (g := 16) (d := 215) rfl rfl rfl) rfl ie208 rfl ?_
          refine dk.c (v := .pointer (some ⟨b203, o204, none⟩)) rfl (by kernel_rfl) (wantT (g := 16) (d := 215) rfl rfl rfl) rfl (by kernel_rfl) rfl ?_
          refine dk.gB (v := .int .i64 (x194.1)) b203 rfl (by kernel_rfl) (wantT (g := 16) (d := 215) rfl rfl rfl) rfl (fun _ q_ => (ld1 (P := Tryd.prog) (t := 2) (p := o204 + 0) (v := .int .i64 (x194.1)) (by kernel_rfl) (by kernel_rfl) (q_ _ hb205) (hc206 0 _ rfl))) rfl ?_
          refine dk.c (v := .bool (decide (x194.1 < (0 : Int)))) rfl (by kernel_rfl) (wantT (g := 16) (d := 215) rfl rfl rfl) rfl rfl rfl ?_
          refine dk.c (v := .bool (decide (x194.1 < (0 : Int)))) rfl (by kernel_rfl) rfl rfl rfl rfl ?_
          refine dk.c (v := .bool (decide (x194.1 < (0 : Int)))) rfl (by kernel_rfl) rfl rfl rfl rfl ?_
          by_cases c33_22 : x194.1 < (0 : Int)
          ·exfalso
           have hone := all_one hPi2.inv (List.mem_of_getElem? hy_x183)
           have hmt := (mayS_iff.1 hone.1).1 _ (List.mem_of_getElem? hx_x194)
           unfold mayT at hmt
           simp only [decide_eq_true_eq] at hmt
           omega
          ·rw [decide_eq_false c33_22]
           refine dk.c (v := .slice a2_x183 (y_x183.2.2.length) c2_x183) rfl (by kernel_rfl) (wantT (g := 24) (d := 223) rfl rfl rfl) rfl rfl rfl ?_
           refine dk.c (v := .int .i64 (m3)) rfl (by kernel_rfl) (wantT (g := 24) (d := 223) rfl rfl rfl) rfl rfl rfl ?_
           have i216 : (0 : Int) ≤ (m3 : Int) := by omega
           obtain ⟨b210, o211, cs_b210, ow_b210, ci_b210, ie215, hb212, hc213, hr214⟩ := IsRow.at (P := Tryd.prog) (t := 41) (e := 53) (k := .i64) (by kernel_rfl) (by kernel_rfl) M_x183.is i216 hx_x194
           refine dk.c (v := .pointer (some ⟨b210, o211, none⟩)) rfl (by kernel_rfl) (wantT (g := 24) (d := 223) rfl rfl rfl) rfl ie215 rfl ?_
           refine dk.c (v := .pointer (some ⟨b210, o211, none⟩)) rfl (by kernel_rfl) (wantT (g := 24) (d := 223) rfl rfl rfl) rfl (by kernel_rfl) rfl ?_
           refine dk.gB (v := .int .i64 (x194.1)) b210 rfl (by kernel_rfl) (wantT (g := 24) (d := 223) rfl rfl rfl) rfl (fun _ q_ => (ld1 (P := Tryd.prog) (t := 2) (p := o211 + 0) (v := .int .i64 (x194.1)) (by kernel_rfl) (by kernel_rfl) (q_ _ hb212) (hc213 0 _ rfl))) rfl ?_
           refine dk.c (v := .bool (decide ((1125899906842624 : Int) < x194.1))) rfl (by kernel_rfl) (wantT (g := 24) (d := 223) rfl rfl rfl) rfl rfl rfl ?_
           refine dk.c (v := .bool (decide ((1125899906842624 : Int) < x194.1))) rfl (by kernel_rfl) rfl rfl rfl rfl ?_
           refine dk.e ?_
           by_cases c33_30 : (1125899906842624 : Int) < x194.1
           ·exfalso
            have hone := all_one hPi2.inv (List.mem_of_getElem? hy_x183)
            have hmt := (mayS_iff.1 hone.1).1 _ (List.mem_of_getElem? hx_x194)
            unfold mayT at hmt
            simp only [decide_eq_true_eq] at hmt
            omega
           ·rw [decide_eq_false c33_30]
            refine AWp.condF rfl rfl ?_
            refine AWp.skip (AWp.rowV (l := _) pok ?_)
            refine sq.c (v := .int .i64 (m3)) rfl rfl rfl rfl ?_
            refine sq.c (v := .int .i64 (m3 + 1)) rfl rfl (okI (wrap_i64 (by omega) (by omega))) rfl ?_
            refine sq.c (v := .int .i64 (m3 + 1)) rfl rfl rfl rfl ?_
            refine sq.e ?_
            refine ⟨_, _, rfl, (by omega), m3 + 1, rfl, hs, hn, hf, hb_bp, hf_x, hg_x, hb_bw, hb_fw, hb_gw, hSw, hSp, W_x, D_x, hb30, R_e, R_o, D_o, R_u, D_u, L_x183, M_x183, (by omega), (by omega), getV [undef, undef, (y184 2), undef, undef, undef, undef, undef, undef, undef, undef, undef, undef, undef, undef, undef, undef, undef, undef, undef, undef, undef, undef, undef, undef, undef, undef, undef, undef, undef, undef, undef, undef, undef, undef, undef, undef, undef, undef, undef, undef, undef, undef, undef, undef, undef, undef, undef, undef, undef, undef, undef, undef, undef, undef, undef, undef, undef, undef, undef, undef, undef, undef, undef, undef, undef, undef, undef, undef, undef, undef, undef, undef, undef, undef, undef, undef, undef, undef, undef, undef, undef, undef, undef, undef, undef, undef, undef, undef, undef, undef, undef, undef, undef, undef, undef, undef, undef, undef, undef, undef, undef, undef, undef, undef, undef, undef, undef, undef, undef, undef, undef, undef, undef, undef, undef, undef, undef, undef, undef, undef, undef, undef, undef, undef, undef, undef, undef, undef, undef, undef, undef, undef, undef, undef, undef, undef, undef, undef, undef, undef, undef, undef, undef, undef, undef, undef, undef, undef, undef, undef, undef, undef, undef, undef, undef, undef, undef, undef, undef, undef, undef, undef, undef, undef, undef, undef, undef, undef, undef, undef, undef, undef, undef, undef, undef, undef, undef, undef, undef, undef, undef, undef, undef, undef, undef, undef, undef, undef, undef, undef, undef, undef, .int .i64 (m3), .slice a2_x183 (y_x183.2.2.length) c2_x183, .int .i64 (((y_x183.2.2.length : Nat) : Int)), .bool true, .int .i64 (m3), .int .i64 (m3 + 1), .int .i64 (m3), .bool true, .bool true, .slice a2_x183 (y_x183.2.2.length) c2_x183, .int .i64 (m3), .pointer (some ⟨b187, o188, none⟩), .pointer (some ⟨b187, o188, none⟩), .int .i64 (x194.1), .slice a2_x183 (y_x183.2.2.length) c2_x183, .int .i64 (m3), .int .i64 (m3 - 1), .pointer (some ⟨b195, o196, none⟩), .pointer (some ⟨b195, o196, none⟩), .int .i64 (x202.1), .bool false, .bool false, .bool false, .slice a2_x183 (y_x183.2.2.length) c2_x183, .int .i64 (m3), .pointer (some ⟨b203, o204, none⟩), .pointer (some ⟨b203, o204, none⟩), .int .i64 (x194.1), .bool false, .bool false, .bool false, .slice a2_x183 (y_x183.2.2.length) c2_x183, .int .i64 (m3), .pointer (some ⟨b210, o211, none⟩), .pointer (some ⟨b210, o211, none⟩), .int .i64 (x194.1), .bool false, .bool false], rfl⟩
        ·rw [decide_eq_false c33_1]
         refine dk.s rfl (wantF (g := 2) (d := 201) rfl rfl rfl) rfl ?_
         refine dk.s rfl (wantF (g := 2) (d := 201) rfl rfl rfl) rfl ?_
         refine dk.s rfl (wantF (g := 2) (d := 201) rfl rfl rfl) rfl ?_
         refine dk.s rfl (wantF (g := 2) (d := 201) rfl rfl rfl) rfl ?_
         refine dk.s rfl (wantF (g := 2) (d := 201) rfl rfl rfl) rfl ?_
         refine dk.s rfl (wantF (g := 2) (d := 201) rfl rfl rfl) rfl ?_
         refine dk.s rfl (wantF (g := 2) (d := 201) rfl rfl rfl) rfl ?_
         refine dk.s rfl (wantF (g := 2) (d := 201) rfl rfl rfl) rfl ?_
         refine dk.s rfl (wantF (g := 2) (d := 201) rfl rfl rfl) rfl ?_
         refine dk.s rfl (wantF (g := 2) (d := 201) rfl rfl rfl) rfl ?_
         refine dk.s rfl (wantF (g := 2) (d := 201) rfl rfl rfl) rfl ?_
         refine dk.s rfl (wantF (g := 2) (d := 201) rfl rfl rfl) rfl ?_
         refine dk.c (v := .bool false) rfl (by kernel_rfl) rfl rfl rfl rfl ?_
         refine dk.c (v := .bool false) rfl (by kernel_rfl) rfl rfl rfl rfl ?_
         refine dk.c (v := .slice a2_x183 (y_x183.2.2.length) c2_x183) rfl (by kernel_rfl) (wantT (g := 16) (d := 215) rfl rfl rfl) rfl rfl rfl ?_
         refine dk.c (v := .int .i64 (m3)) rfl (by kernel_rfl) (wantT (g := 16) (d := 215) rfl rfl rfl) rfl rfl rfl ?_
         have i223 : (0 : Int) ≤ (m3 : Int) := by omega
         obtain ⟨x224, hx_x224⟩ : ∃ x, (y_x183.2.2)[((m3 : Int)).toNat]? = some x := ⟨_, List.getElem?_eq_getElem (by omega)⟩
         obtain ⟨b217, o218, cs_b217, ow_b217, ci_b217, ie222, hb219, hc220, hr221⟩ := IsRow.at (P := Tryd.prog) (t := 41) (e := 53) (k := .i64) (by kernel_rfl) (by kernel_rfl) M_x183.is i223 hx_x224
         refine dk.c (v := .pointer (some ⟨b217, o218, none⟩)) rfl (by kernel_rfl) (wantT (g := 16) (d := 215) rfl rfl rfl) rfl ie222 rfl ?_
         refine dk.c (v := .pointer (some ⟨b217, o218, none⟩)) rfl (by kernel_rfl) (wantT (g := 16) (d := 215) rfl rfl rfl) rfl (by kernel_rfl) rfl ?_
         refine dk.gB (v := .int .i64 (x224.1)) b217 rfl (by kernel_rfl) (wantT (g := 16) (d := 215) rfl rfl rfl) rfl (fun _ q_ => (ld1 (P := Tryd.prog) (t := 2) (p := o218 + 0) (v := .int .i64 (x224.1)) (by kernel_rfl) (by kernel_rfl) (q_ _ hb219) (hc220 0 _ rfl))) rfl ?_
         refine dk.c (v := .bool (decide (x224.1 < (0 : Int)))) rfl (by kernel_rfl) (wantT (g := 16) (d := 215) rfl rfl rfl) rfl rfl rfl ?_
         refine dk.c (v := .bool (decide (x224.1 < (0 : Int)))) rfl (by kernel_rfl) rfl rfl rfl rfl ?_
         refine dk.c (v := .bool (decide (x224.1 < (0 : Int)))) rfl (by kernel_rfl) rfl rfl rfl rfl ?_
         by_cases c33_22 : x224.1 < (0 : Int)
         ·exfalso
          have hone := all_one hPi2.inv (List.mem_of_getElem? hy_x183)
          have hmt := (mayS_iff.1 hone.1).1 _ (List.mem_of_getElem? hx_x224)
          unfold mayT at hmt
          simp only [decide_eq_true_eq] at hmt
          omega
         ·rw [decide_eq_false c33_22]
          refine dk.c (v := .slice a2_x183 (y_x183.2.2.length) c2_x183) rfl (by kernel_rfl) (wantT (g := 24) (d := 223) rfl rfl rfl) rfl rfl rfl ?_
          refine dk.c (v := .int .i64 (m3)) rfl (by kernel_rfl) (wantT (g := 24) (d := 223) rfl rfl rfl) rfl rfl rfl ?_
          have i231 : (0 : Int) ≤ (m3 : Int) := by omega
          obtain ⟨b225, o226, cs_b225, ow_b225, ci_b225, ie230, hb227, hc228, hr229⟩ := IsRow.at (P := Tryd.prog) (t := 41) (e := 53) (k := .i64) (by kernel_rfl) (by kernel_rfl) M_x183.is i231 hx_x224
          refine dk.c (v := .pointer (some ⟨b225, o226, none⟩)) rfl (by kernel_rfl) (wantT (g := 24) (d := 223) rfl rfl rfl) rfl ie230 rfl ?_
          refine dk.c (v := .pointer (some ⟨b225, o226, none⟩)) rfl (by kernel_rfl) (wantT (g := 24) (d := 223) rfl rfl rfl) rfl (by kernel_rfl) rfl ?_
          refine dk.gB (v := .int .i64 (x224.1)) b225 rfl (by kernel_rfl) (wantT (g := 24) (d := 223) rfl rfl rfl) rfl (fun _ q_ => (ld1 (P := Tryd.prog) (t := 2) (p := o226 + 0) (v := .int .i64 (x224.1)) (by kernel_rfl) (by kernel_rfl) (q_ _ hb227) (hc228 0 _ rfl))) rfl ?_
          refine dk.c (v := .bool (decide ((1125899906842624 : Int) < x224.1))) rfl (by kernel_rfl) (wantT (g := 24) (d := 223) rfl rfl rfl) rfl rfl rfl ?_
          refine dk.c (v := .bool (decide ((1125899906842624 : Int) < x224.1))) rfl (by kernel_rfl) rfl rfl rfl rfl ?_
          refine dk.e ?_
          by_cases c33_30 : (1125899906842624 : Int) < x224.1
          ·exfalso
           have hone := all_one hPi2.inv (List.mem_of_getElem? hy_x183)
           have hmt := (mayS_iff.1 hone.1).1 _ (List.mem_of_getElem? hx_x224)
           unfold mayT at hmt
           simp only [decide_eq_true_eq] at hmt
           omega
          ·rw [decide_eq_false c33_30]
           refine AWp.condF rfl rfl ?_
           refine AWp.skip (AWp.rowV (l := _) pok ?_)
           refine sq.c (v := .int .i64 (m3)) rfl rfl rfl rfl ?_
           refine sq.c (v := .int .i64 (m3 + 1)) rfl rfl (okI (wrap_i64 (by omega) (by omega))) rfl ?_
           refine sq.c (v := .int .i64 (m3 + 1)) rfl rfl rfl rfl ?_
           refine sq.e ?_
           refine ⟨_, _, rfl, (by omega), m3 + 1, rfl, hs, hn, hf, hb_bp, hf_x, hg_x, hb_bw, hb_fw, hb_gw, hSw, hSp, W_x, D_x, hb30, R_e, R_o, D_o, R_u, D_u, L_x183, M_x183, (by omega), (by omega), getV [undef, undef, (y184 2), undef, undef, undef, undef, undef, undef, undef, undef, undef, undef, undef, undef, undef, undef, undef, undef, undef, undef, undef, undef, undef, undef, undef, undef, undef, undef, undef, undef, undef, undef, undef, undef, undef, undef, undef, undef, undef, undef, undef, undef, undef, undef, undef, undef, undef, undef, undef, undef, undef, undef, undef, undef, undef, undef, undef, undef, undef, undef, undef, undef, undef, undef, undef, undef, undef, undef, undef, undef, undef, undef, undef, undef, undef, undef, undef, undef, undef, undef, undef, undef, undef, undef, undef, undef, undef, undef, undef, undef, undef, undef, undef, undef, undef, undef, undef, undef, undef, undef, undef, undef, undef, undef, undef, undef, undef, undef, undef, undef, undef, undef, undef, undef, undef, undef, undef, undef, undef, undef, undef, undef, undef, undef, undef, undef, undef, undef, undef, undef, undef, undef, undef, undef, undef, undef, undef, undef, undef, undef, undef, undef, undef, undef, undef, undef, undef, undef, undef, undef, undef, undef, undef, undef, undef, undef, undef, undef, undef, undef, undef, undef, undef, undef, undef, undef, undef, undef, undef, undef, undef, undef, undef, undef, undef, undef, undef, undef, undef, undef, undef, undef, undef, undef, undef, undef, undef, undef, undef, undef, undef, undef, .int .i64 (m3), .slice a2_x183 (y_x183.2.2.length) c2_x183, .int .i64 (((y_x183.2.2.length : Nat) : Int)), .bool true, .int .i64 (m3), .int .i64 (m3 + 1), .int .i64 (m3), .bool false, .bool false, undef, undef, undef, undef, undef, undef, undef, undef, undef, undef, undef, undef, .bool false, .bool false, .slice a2_x183 (y_x183.2.2.length) c2_x183, .int .i64 (m3), .pointer (some ⟨b217, o218, none⟩), .pointer (some ⟨b217, o218, none⟩), .int .i64 (x224.1), .bool false, .bool false, .bool false, .slice a2_x183 (y_x183.2.2.length) c2_x183, .int .i64 (m3), .pointer (some ⟨b225, o226, none⟩), .pointer (some ⟨b225, o226, none⟩), .int .i64 (x224.1), .bool false, .bool false], rfl⟩
       ·rw [decide_eq_false c31_3]
        refine AWp.condF rfl rfl ?_
        refine AWp.exit ?_
        refine AWp.seq (AWp.rowV (l := _) pok ?_)
        refine sq.c (v := .slice a2_x183 (y_x183.2.2.length) c2_x183) rfl rfl rfl rfl ?_
        refine sq.c (v := .int .i64 (((y_x183.2.2.length : Nat) : Int))) rfl rfl (by kernel_rfl) rfl ?_
        refine sq.c (v := .bool (decide ((((y_x183.2.2.length : Nat) : Int)) = (0 : Int)))) rfl rfl rfl rfl ?_
        refine sq.e ?_
        by_cases c35_2 : (((y_x183.2.2.length : Nat) : Int)) = (0 : Int)
        ·exfalso
         have hone := all_one hPi2.inv (List.mem_of_getElem? hy_x183)
         have hps := hone.2.2.2.1
         omega
        ·rw [decide_eq_false c35_2]
         refine AWp.condF rfl rfl ?_
         refine AWp.skip (AWp.rowV (l := _) pok ?_)
         refine sq.c (v := .int .i64 (k3)) rfl rfl rfl rfl ?_
         refine sq.c (v := .int .i64 (k3 + 1)) rfl rfl (okI (wrap_i64 (by omega) (by omega))) rfl ?_
         refine sq.c (v := .int .i64 (k3 + 1)) rfl rfl rfl rfl ?_
         refine sq.e ?_
         refine ⟨_, _, rfl, (by omega), k3 + 1, rfl, hs, hn, hf, hb_bp, hf_x, hg_x, hb_bw, hb_fw, hb_gw, hSw, hSp, W_x, D_x, hb30, R_e, R_o, D_o, R_u, D_u, (by omega), (by omega), getV [undef, undef, (y184 2), undef, undef, undef, undef, undef, undef, undef, undef, undef, undef, undef, undef, undef, .slice a2_x183 (y_x183.2.2.length) c2_x183, .int .i64 (m3), undef, undef, undef, undef, undef, undef, undef, undef, undef, undef, undef, undef, undef, undef, undef, undef, undef, undef, undef, undef, undef, undef, undef, undef, undef, undef, undef, undef, undef, undef, undef, undef, undef, undef, undef, undef, undef, undef, undef, undef, undef, undef, undef, undef, undef, undef, undef, undef, undef, undef, undef, undef, undef, undef, undef, undef, undef, undef, undef, undef, undef, undef, undef, undef, undef, undef, undef, undef, undef, undef, undef, undef, undef, undef, undef, undef, undef, undef, undef, undef, undef, undef, undef, undef, undef, undef, undef, undef, undef, undef, undef, undef, undef, undef, undef, undef, undef, undef, undef, undef, undef, undef, undef, undef, undef, undef, undef, undef, undef, undef, undef, undef, undef, undef, undef, undef, undef, undef, undef, undef, undef, undef, undef, undef, undef, undef, undef, undef, undef, undef, undef, undef, undef, undef, undef, undef, undef, undef, undef, undef, undef, undef, undef, undef, undef, undef, undef, undef, undef, undef, undef, undef, undef, undef, undef, undef, undef, undef, undef, undef, undef, undef, undef, .int .i64 (k3), .slice a_u (ro_u.length) c_u, .int .i64 (((ro_u.length : Nat) : Int)), .bool true, .int .i64 (k3), .int .i64 (k3 + 1), .slice a_u (ro_u.length) c_u, .int .i64 (k3), .pointer (some ⟨b176, o177, none⟩), .pointer (some ⟨b176, o177 + 1, none⟩), .pointer (some ⟨b176, o177 + 2, none⟩), .slice a2_x183 (y_x183.2.2.length) c2_x183, .int .i64 (m3), .slice a2_x183 (y_x183.2.2.length) c2_x183, .int .i64 (((y_x183.2.2.length : Nat) : Int)), .bool false, (y184 197), (y184 198), (y184 199), (y184 200), (y184 201), (y184 202), (y184 203), (y184 204), (y184 205), (y184 206), (y184 207), (y184 208), (y184 209), (y184 210), (y184 211), (y184 212), (y184 213), (y184 214), (y184 215), (y184 216), (y184 217), (y184 218), (y184 219), (y184 220), (y184 221), (y184 222), (y184 223), (y184 224), (y184 225), (y184 226), (y184 227), (y184 228), (y184 229), (y184 230), .slice a2_x183 (y_x183.2.2.length) c2_x183, .int .i64 (((y_x183.2.2.length : Nat) : Int)), .bool false], rfl⟩
      ·rw [decide_eq_false c27_3]
       refine AWp.condF rfl rfl ?_
       refine AWp.exit ?_
       refine AWp.rowV (l := _) pok ?_
       refine sq.c (v := .int .i64 (i)) rfl rfl rfl rfl ?_
       refine sq.c (v := .int .i64 (i + 1)) rfl rfl (okI (wrap_i64 (by omega) (by omega))) rfl ?_
       refine sq.c (v := .int .i64 (i + 1)) rfl rfl rfl rfl ?_
       refine sq.e ?_
       refine ⟨_, _, rfl, (by omega), i + 1, R.st, G_x, rfl, hs, hn, hf, hb_bp, hf_x, hg_x, hSp, okF_x, okG_x, (by omega), (by omega), (by rw [show (i + 1).toNat = i.toNat + 1 by omega]; exact hPi2), (by rw [take_snoc hi0 hy_x22, runP_snoc, ← hP, ← hR]), getV [undef, undef, (y173 2), undef, undef, .pointer (some ⟨bw, 0, none⟩), .pointer (some ⟨n24, 0, none⟩), .int .i64 (R.e), .slice a_e (fencesV P.F).length c_e, .int .i64 (k), .slice a_o (ro_o.length) c_o, .int .i64 (k2), (y134 12), (y134 13), .slice a_u (ro_u.length) c_u, .int .i64 (k3), (y173 16), (y173 17), undef, undef, undef, undef, undef, undef, undef, undef, .int .i64 (i), .slice a (rs.length) cp, .int .i64 (((rs.length : Nat) : Int)), .bool true, .int .i64 (i), .int .i64 (i + 1), .pointer (some ⟨bp, 0, none⟩), .pointer (some ⟨bw, 0, none⟩), .tuple #[.agg #[.string (R.kb.ten), .string (R.kb.clu), .int .i64 (R.kb.epo), .slice a_x (os_x.length) c_x, .int .i64 (R.bad), .bool (R.rose)], .int .i64 (R.e)], .pointer (some ⟨bp, 0, none⟩), .slice a (rs.length) cp, .int .i64 (i), .pointer (some ⟨b15, o16, none⟩), .agg #[.string (y_x22.ten), .string (y_x22.clu), .int .i64 (y_x22.epo), .slice a_x22 (rs_x22.length) c_x22], .tuple #[.agg #[.string (R.kb.ten), .string (R.kb.clu), .int .i64 (R.kb.epo), .slice a_x (os_x.length) c_x, .int .i64 (R.bad), .bool (R.rose)], .int .i64 (R.e)], .agg #[.string (R.kb.ten), .string (R.kb.clu), .int .i64 (R.kb.epo), .slice a_x (os_x.length) c_x, .int .i64 (R.bad), .bool (R.rose)], .int .i64 (R.e), .pointer (some ⟨bw, 0, none⟩), .slice a_e (fencesV P.F).length c_e, .int .i64 (k), .slice a_e (fencesV P.F).length c_e, .int .i64 ((((fencesV P.F).length : Nat) : Int)), .bool false, (y37 49), (y37 50), (y37 51), (y37 52), (y37 53), (y37 54), (y37 55), (y37 56), (y37 57), (y37 58), (y37 59), (y37 60), (y37 61), (y37 62), (y37 63), (y37 64), (y37 65), (y37 66), (y37 67), (y37 68), (y63 69), (y63 70), (y63 71), (y63 72), (y63 73), (y63 74), (y63 75), (y63 76), (y63 77), (y63 78), (y63 79), (y63 80), (y63 81), (y63 82), (y63 83), (y63 84), (y63 85), (y63 86), (y63 87), (y63 88), (y63 89), (y63 90), (y63 91), (y63 92), (y63 93), (y63 94), (y63 95), (y63 96), (y63 97), (y63 98), (y63 99), (y63 100), (y63 101), (y63 102), (y63 103), (y63 104), (y63 105), (y63 106), (y63 107), (y63 108), (y63 109), (y63 110), (y63 111), (y63 112), (y63 113), (y63 114), (y63 115), (y63 116), (y63 117), (y63 118), (y63 119), (y63 120), (y63 121), (y63 122), (y63 123), (y63 124), (y63 125), (y63 126), (y63 127), (y63 128), (y63 129), (y63 130), (y63 131), (y63 132), .bool false, .pointer (some ⟨bw, 0, none⟩), .slice a_o (ro_o.length) c_o, .int .i64 (k2), .slice a_o (ro_o.length) c_o, .int .i64 (((ro_o.length : Nat) : Int)), .bool false, (y134 140), (y134 141), (y134 142), (y134 143), (y134 144), (y134 145), (y134 146), (y134 147), (y134 148), (y134 149), (y134 150), (y134 151), (y134 152), (y134 153), (y134 154), (y134 155), (y134 156), (y134 157), (y134 158), (y134 159), (y134 160), (y134 161), (y134 162), (y134 163), (y134 164), (y134 165), (y134 166), (y134 167), (y134 168), (y134 169), (y134 170), (y134 171), (y134 172), (y134 173), (y134 174), (y134 175), (y134 176), (y134 177), (y134 178), .pointer (some ⟨bp, 0, none⟩), .slice a_u (ro_u.length) c_u, .int .i64 (k3), .slice a_u (ro_u.length) c_u, .int .i64 (((ro_u.length : Nat) : Int)), .bool false, (y173 185), (y173 186), (y173 187), (y173 188), (y173 189), (y173 190), (y173 191), (y173 192), (y173 193), (y173 194), (y173 195), (y173 196), (y173 197), (y173 198), (y173 199), (y173 200), (y173 201), (y173 202), (y173 203), (y173 204), (y173 205), (y173 206), (y173 207), (y173 208), (y173 209), (y173 210), (y173 211), (y173 212), (y173 213), (y173 214), (y173 215), (y173 216), (y173 217), (y173 218), (y173 219), (y173 220), (y173 221), (y173 222), (y173 223), (y173 224), (y173 225), (y173 226), (y173 227), (y173 228), (y173 229), (y173 230), (y173 231), (y173 232), (y173 233)], rfl⟩
  ·rw [decide_eq_false c5_3]
   refine AWp.condF rfl rfl ?_
   refine AWp.exit ?_
   refine AWp.seq (AWp.rowV (l := _) pok ?_)
   refine sq.c (v := .bool true) rfl rfl rfl rfl ?_
   refine sq.e ?_
   refine AWp.ret ?_
   refine ⟨rfl, [.bool true], rfl, .bool true, rfl, hs, hn, ?_⟩
   rfl
end Go.Proofs.YtkpaklofdkjinaaDoor
namespace Go.Proofs.YtkpaklofdkjinaaDoor
open Go Go.Abs Go.ChangeShapes Go.RowKit Go.WideShapes
set_option maxRecDepth 100000
set_option maxHeartbeats 1000000
theorem exists_list {α : Type} {Q : Nat → α → Prop} : ∀ (len : Nat), (∀ i, i < len → ∃ x, Q i x) → ∃ ls : List α, ls.length = len ∧ ∀ i x, ls[i]? = some x → Q i x := by
  intro len
  induction len with
  | zero => intro _; exact ⟨[], rfl, fun i x h => by simp at h⟩
  | succ len ih =>
    intro h
    obtain ⟨ls, hl, hq⟩ := ih fun i hi => h i (by omega)
    obtain ⟨x, hx⟩ := h len (by omega)
    refine ⟨ls ++ [x], by simp [hl], fun i y hy => ?_⟩
    by_cases hi : i < ls.length
    · rw [List.getElem?_append_left hi] at hy; exact hq i y hy
    · rw [List.getElem?_append_right (by omega)] at hy
      have : i - ls.length = 0 := by
        cases hc : i - ls.length with
        | zero => rfl
        | succ k => rw [hc] at hy; simp at hy
      rw [this] at hy
      simp at hy
      subst hy
      rw [show i = len by omega]
      exact hx
theorem choose_list {β γ : Type} {O : β → γ → Prop} {bs : List β} (h : ∀ b ∈ bs, ∃ c, O b c) : ∃ cs : List γ, cs.length = bs.length ∧ ∀ (i : Nat) b c, bs[i]? = some b → cs[i]? = some c → O b c := by
  obtain ⟨cs, hl, hq⟩ := exists_list (Q := fun i c => ∀ b, bs[i]? = some b → O b c) bs.length fun i hi => by
    obtain ⟨c, hc⟩ := h _ (List.getElem_mem hi)
    refine ⟨c, fun b hb => ?_⟩
    rw [List.getElem?_eq_getElem hi] at hb
    cases hb; exact hc
  exact ⟨cs, hl, fun i b c hb hc => hq i c hc b hb⟩
theorem row_cell {α : Type} (E : Enc α) {xs : List α} {i : Nat} {y : Value} (h : (E.row xs)[i]? = some y) : ∃ x, xs[i / E.k]? = some x ∧ (E.cells x)[i % E.k]? = some y ∧ i / E.k < xs.length := by
  have hi := (List.getElem?_eq_some_iff.1 h).1
  rw [E.row_length] at hi
  have hq : i / E.k < xs.length := by rw [Nat.div_lt_iff_lt_mul E.pos, Nat.mul_comm]; exact hi
  refine ⟨xs[i / E.k], List.getElem?_eq_getElem hq, ?_, hq⟩
  have hr : i % E.k < (E.cells xs[i / E.k]).length := by rw [E.len]; exact Nat.mod_lt _ E.pos
  have e := E.row_get xs (i / E.k) _ (List.getElem?_eq_getElem hq) (i % E.k) _ (List.getElem?_eq_getElem hr)
  rw [Nat.div_add_mod] at e
  rw [h] at e
  rw [List.getElem?_eq_getElem hr]
  exact e.symm
def OSl {α : Type} (E : Enc α) (W : World) (v : Value) (ls : List α) : Prop :=
  (v = .slice none 0 0 ∧ ls = []) ∨ (∃ a, v = .slice (some a) 0 0 ∧ ls = []) ∨
  ∃ (bk off cap : Nat) (c : Array Value) (el : TypeId) (fr : Nat × Nat), v = .slice (some ⟨bk, off, none⟩) ls.length cap ∧ ls.length ≤ cap ∧ cap ≤ maxLen ∧ W.heap[bk]? = some (.cells c el fr) ∧ off + E.k * ls.length ≤ c.size ∧ ∀ i y, (E.row ls)[i]? = some y → c[off + i]? = some y
theorem cell_at {W : World} {a : Addr} {z : Value} (h : W.cell? a = some z) : ∃ bk off c el fr, a = ⟨bk, off, none⟩ ∧ W.heap[bk]? = some (.cells c el fr) ∧ off < c.size := by
  have hs := World.cell?_spot h
  obtain ⟨bk, off, sp⟩ := a
  simp only at hs
  subst hs
  unfold World.cell? at h
  split at h
  · rename_i c el fr hh
    simp at h
    exact ⟨bk, off, c, el, fr, rfl, hh, (Array.getElem?_eq_some_iff.1 h).1⟩
  · cases h
theorem cells_at {W : World} {base n : Nat} {a : Addr} {cs : List Value} (h : W.cells? base a n = some cs) : ∀ j, j < n → ∃ z, cs[j]? = some z ∧ W.cell? (a.add j) = some z := by
  intro j hj
  unfold World.cells? at h
  split at h
  · exact Lib.mapM_at h j j (by rw [List.getElem?_range hj])
  · cases h
theorem open_sl {α : Type} {E : Enc α} {Q : α → Prop} {H : Type} {enc : TypeId × Value → H} {W : World} {base : Nat} {held : Bool} {t e : TypeId} (ut : Tryd.prog.underlying t = some (.slice e)) (hk : Tryd.prog.cellsOf e = E.k)
    (one : ∀ {n : Nat} {cs : List Value} {x : DataW H × List MemPlace}, DataW.trod enc Tryd.prog W base (fun _ => true) held n e cs = some x → ∃ a : α, cs = E.cells a ∧ Q a)
    {fuel : Nat} {v : Value} {x : DataW H × List MemPlace} (h : DataW.trod enc Tryd.prog W base (fun _ => true) held fuel t [v] = some x) : ∃ ls, OSl E W v ls ∧ ∀ a ∈ ls, Q a := by
  rcases DataW.trod_slice ut h with ⟨h1, _⟩ | ⟨a, len, cap, elems, rest, n, rfl, h1, _, _, hl, hm, hlen, hel, hr, _⟩
  · cases h1
    exact ⟨[], .inl ⟨rfl, rfl⟩, fun a ha => by cases ha⟩
  · cases h1
    by_cases hc : cap = 0
    · have h0 : len = 0 := by omega
      subst hc; subst h0
      exact ⟨[], .inr (.inl ⟨a, rfl, rfl⟩), fun a ha => by cases ha⟩
    · rw [hk] at hel
      obtain ⟨hr1, hr2⟩ := hr rfl
      rw [hk] at hr2
      have hkp := E.pos
      have add0 : a.add 0 = a := by unfold Addr.add; rfl
      have key : ∃ z, W.cell? a = some z := by
        by_cases h0 : len = 0
        · have e1 := hr2 0 (by omega)
          obtain ⟨y, hy⟩ : ∃ y, rest[0]? = some y := ⟨rest[0]'(by omega), List.getElem?_eq_getElem _⟩
          rw [hy, Option.bind_eq_some_iff] at e1
          obtain ⟨cs, hcs, _⟩ := e1
          obtain ⟨z, _, hz⟩ := cells_at hcs 0 hkp
          rw [h0, Nat.zero_add, Nat.zero_mul, add0, add0] at hz
          exact ⟨z, hz⟩
        · have e1 := hel 0 (by omega)
          obtain ⟨y, hy⟩ : ∃ y, elems[0]? = some y := ⟨elems[0]'(by omega), List.getElem?_eq_getElem _⟩
          rw [hy, Option.bind_eq_some_iff] at e1
          obtain ⟨cs, hcs, _⟩ := e1
          obtain ⟨z, _, hz⟩ := cells_at hcs 0 hkp
          rw [Nat.zero_mul, add0, add0] at hz
          exact ⟨z, hz⟩
      obtain ⟨z, hz⟩ := key
      obtain ⟨bk, off, c, el, fr, rfl, hheap, hoff⟩ := cell_at hz
      have hcell : ∀ i, i < len → ∃ x : α, Q x ∧ ∀ j y, (E.cells x)[j]? = some y → c[off + (E.k * i + j)]? = some y := by
        intro i hi
        have h2 := hel i hi
        obtain ⟨y, hy⟩ : ∃ y, elems[i]? = some y := ⟨elems[i]'(by omega), List.getElem?_eq_getElem _⟩
        rw [hy, Option.bind_eq_some_iff] at h2
        obtain ⟨cs, hcs, htr⟩ := h2
        obtain ⟨x, rfl, hx⟩ := one htr
        refine ⟨x, hx, fun j y hj => ?_⟩
        have hjl : j < E.k := by have := (List.getElem?_eq_some_iff.1 hj).1; rw [E.len] at this; exact this
        obtain ⟨z, f0, g0⟩ := cells_at hcs j hjl
        rw [hj] at f0
        cases f0
        rw [Addr.add_plain, Addr.add_plain, cell_of_block hheap] at g0
        rw [← g0]; congr 1; rw [Nat.mul_comm]; omega
      obtain ⟨ls, hll, hq⟩ := exists_list len hcell
      subst hll
      have hcells : ∀ i y, (E.row ls)[i]? = some y → c[off + i]? = some y := by
        intro i y hy
        obtain ⟨x, hx, hj, _⟩ := row_cell E hy
        have := (hq _ _ hx).2 _ _ hj
        rw [Nat.div_add_mod] at this
        exact this
      refine ⟨ls, .inr (.inr ⟨bk, off, cap, c, el, fr, rfl, hl, hm, hheap, ?_, hcells⟩), fun x hx => ?_⟩
      · rcases Nat.eq_zero_or_pos (E.k * ls.length) with h0 | h0
        · omega
        · have hlt : E.k * ls.length - 1 < (E.row ls).length := by rw [E.row_length]; omega
          have := hcells _ _ (List.getElem?_eq_getElem hlt)
          have := (Array.getElem?_eq_some_iff.1 this).1
          omega
      · obtain ⟨i, hi⟩ := List.getElem?_of_mem hx
        exact (hq i x hi).1
theorem add_sl {α β : Type} (E : Enc α) (E' : Enc β) (hkk : E.k = E'.k) {μ : Mu} {h : Heap} {n : Nat} {W : World} {v : Value} {ws : List β} (hr : Rel Tryd.prog μ h n W) (ro : ∀ b o, h.get b = some o → o.excl = false) (o : OSl E' W v ws)
    {xs : List α} (hlen : xs.length = ws.length) (hrel : ∀ (i : Nat) y y', (E.row xs)[i]? = some y → (E'.row ws)[i]? = some y' → VRel μ y y') :
    ∃ (μ' : Mu) (h' : Heap) (n' : Nat) (a : Option Addr) (cp : Nat), Rel Tryd.prog μ' h' n' W ∧ (∀ b o, h'.get b = some o → o.excl = false) ∧ h.sub h' ∧ μ.le μ' ∧ VRel μ' (.slice a xs.length cp) v ∧ FRow E h' (.slice a xs.length cp) xs ∧ xs.length < 9223372036854775808 ∧ xs.length ≤ cp ∧ cp < U := by
  rcases o with ⟨rfl, rfl⟩ | ⟨a, rfl, rfl⟩ | ⟨bk, off, cap, c, el, fr, rfl, hlc, hcm, hb, hoff, hcells⟩
  · obtain rfl : xs = [] := List.eq_nil_of_length_eq_zero hlen
    exact ⟨μ, h, n, none, 0, hr, ro, Heap.sub_refl _, μ.le_refl, .snil, .nil, by simp, by simp, by decide⟩
  · obtain rfl : xs = [] := List.eq_nil_of_length_eq_zero hlen
    exact ⟨μ, h, n, some ⟨0, 0, none⟩, 0, hr, ro, Heap.sub_refl _, μ.le_refl, .szero _ _ _, .inl ⟨rfl, .inr ⟨0, 0, 0, rfl⟩⟩, by simp, by simp, by decide⟩
  · have hl1 : (E.row xs).length = E'.k * ws.length := by rw [E.row_length, hkk, hlen]
    have hle : μ.le (μ.set n ⟨bk, off, c.size, 0⟩) := by
      intro b m hbm
      unfold Mu.set
      by_cases e : b = n
      · subst e; rw [hr.bound _ (Nat.le_refl _)] at hbm; cases hbm
      · simp [e, hbm]
    obtain ⟨hr1, ro1⟩ := hr.addRO ro (o := .cells (E.row xs) false ⟨el, 0, false⟩) (x := .cells c el fr) (m := ⟨bk, off, c.size, 0⟩) rfl hb
      ⟨rfl, by rw [hl1]; exact hoff, fun i y hy => by
        have hi : i < (E'.row ws).length := by rw [E'.row_length, ← hl1]; exact (List.getElem?_eq_some_iff.1 hy).1
        exact ⟨(E'.row ws)[i], hcells _ _ (List.getElem?_eq_getElem hi), (hrel i y _ hy (List.getElem?_eq_getElem hi)).mono hle⟩, by simp, rfl, rfl, by simp⟩
    have hmax : maxLen < U := by decide
    have hm : xs.length < 9223372036854775808 := by rw [hlen]; exact Nat.lt_of_le_of_lt (Nat.le_trans hlc hcm) (by decide)
    have hf : Free h n := fun b hb => hr.below hb
    refine ⟨_, _, _, some ⟨n, 0, none⟩, cap, hr1, ro1, sub_alloc hf, hle, ?_, ?_, hm, by rw [hlen]; exact hlc, Nat.lt_of_le_of_lt hcm hmax⟩
    · rw [hlen]
      exact VRel.slice (b := n) 0 ws.length cap cap (Mu.set_same _ _ _) (.inl ⟨by omega, rfl⟩)
    · refine .inr ⟨n, 0, cap, _, ⟨el, 0, false⟩, rfl, by rw [hlen]; exact hlc, Trie.get_set_same _ _ _, ?_, ?_⟩
      · rw [List.drop_zero, ← E.row_length, List.take_length]
      · rw [E.row_length]; omega
theorem row_rel {α β : Type} (E : Enc α) (E' : Enc β) (hkk : E.k = E'.k) {μ : Mu} {xs : List α} {ws : List β} (h : ∀ (i : Nat) a b, xs[i]? = some a → ws[i]? = some b → ∀ (j : Nat) y y', (E.cells a)[j]? = some y → (E'.cells b)[j]? = some y' → VRel μ y y') :
    ∀ (i : Nat) y y', (E.row xs)[i]? = some y → (E'.row ws)[i]? = some y' → VRel μ y y' := fun i y y' hy hy' => by
  obtain ⟨x, hx, hj, _⟩ := row_cell E hy
  obtain ⟨w, hw, hj', _⟩ := row_cell E' hy'
  rw [hkk] at hx hj
  exact h _ _ _ hx hw _ _ _ hj hj'
theorem row_flat {α : Type} (E : Enc α) (hfl : ∀ x, ((E.cells x).all flat) = true) {μ : Mu} {xs : List α} : ∀ (i : Nat) y y', (E.row xs)[i]? = some y → (E.row xs)[i]? = some y' → VRel μ y y' := fun i y y' hy hy' => by
  rw [hy] at hy'
  cases hy'
  obtain ⟨x, _, hj, _⟩ := row_cell E hy
  exact .flat_self (List.all_eq_true.1 (hfl x) y (List.mem_of_getElem? hj))
theorem add_list {β γ α : Type} {W : World} (O : β → γ → Prop) (R : Mu → α → β → Prop) (Fa : Heap → α → γ → Prop) (hRm : ∀ μ μ' a b, μ.le μ' → R μ a b → R μ' a b) (hFm : ∀ (h h' : Heap) a c, h.sub h' → Fa h a c → Fa h' a c)
    (one : ∀ (μ : Mu) (h : Heap) (n : Nat) b c, Rel Tryd.prog μ h n W → (∀ b o, h.get b = some o → o.excl = false) → O b c → ∃ (μ' : Mu) (h' : Heap) (n' : Nat) (a : α), Rel Tryd.prog μ' h' n' W ∧ (∀ b o, h'.get b = some o → o.excl = false) ∧ h.sub h' ∧ μ.le μ' ∧ R μ' a b ∧ Fa h' a c) :
    ∀ (bs : List β) (cs : List γ) (μ : Mu) (h : Heap) (n : Nat), cs.length = bs.length → (∀ (i : Nat) b c, bs[i]? = some b → cs[i]? = some c → O b c) → Rel Tryd.prog μ h n W → (∀ b o, h.get b = some o → o.excl = false) →
      ∃ (μ' : Mu) (h' : Heap) (n' : Nat) (az : List α), Rel Tryd.prog μ' h' n' W ∧ (∀ b o, h'.get b = some o → o.excl = false) ∧ h.sub h' ∧ μ.le μ' ∧ az.length = bs.length ∧ (∀ (i : Nat) a b, az[i]? = some a → bs[i]? = some b → R μ' a b) ∧ (∀ (i : Nat) a c, az[i]? = some a → cs[i]? = some c → Fa h' a c) := by
  intro bs
  induction bs with
  | nil =>
    intro cs μ h n hl hO hr ro
    exact ⟨μ, h, n, [], hr, ro, Heap.sub_refl _, μ.le_refl, rfl, (fun i a b ha => by simp at ha), (fun i a b ha => by simp at ha)⟩
  | cons b bs ih =>
    intro cs μ h n hl hO hr ro
    cases cs with
    | nil => simp at hl
    | cons c cs =>
      obtain ⟨m1, k1, n1, a, r1, ro1, s1, l1, x1, y1⟩ := one μ h n b c hr ro (hO 0 b c rfl rfl)
      obtain ⟨m2, k2, n2, az, r2, ro2, s2, l2, e2, x2, y2⟩ := ih cs m1 k1 n1 (by simpa using hl) (fun i b c hb hc => hO (i + 1) b c (by simpa using hb) (by simpa using hc)) r1 ro1
      refine ⟨m2, k2, n2, a :: az, r2, ro2, Heap.sub_trans s1 s2, Mu.le_trans l1 l2, by simp [e2], fun i a' b' ha hb => ?_, fun i a' c' ha hc => ?_⟩
      · cases i with
        | zero => simp at ha hb; subst ha; subst hb; exact hRm _ _ _ _ l2 x1
        | succ i => exact x2 i a' b' (by simpa using ha) (by simpa using hb)
      · cases i with
        | zero => simp at ha hc; subst ha; subst hc; exact hFm _ _ _ _ s2 y1
        | succ i => exact y2 i a' c' (by simpa using ha) (by simpa using hc)
/-! Series, batches. -/
def OSer (W : World) (r : RSer) (s : Ser) : Prop := OSl encLab W r.1 s.1 ∧ OSl encSmp W r.2 s.2
def OSers (W : World) (v : Value) (ss : List Ser) : Prop := ∃ ws, OSl encSer W v ws ∧ ss.length = ws.length ∧ ∀ (i : Nat) r s, ws[i]? = some r → ss[i]? = some s → OSer W r s
def OBat (W : World) (r : RBat) (b : Bat) : Prop := r.ten = b.ten ∧ r.clu = b.clu ∧ r.epo = b.epo ∧ OSers W r.ser b.ser
def OBats (W : World) (v : Value) (bs : List Bat) : Prop := ∃ ws, OSl encBat W v ws ∧ bs.length = ws.length ∧ ∀ (i : Nat) r b, ws[i]? = some r → bs[i]? = some b → OBat W r b
section
variable {H : Type} {enc : TypeId × Value → H} {W : World} {base : Nat} {held : Bool}
theorem ut_str : Tryd.prog.underlying 9 = some .string := by kernel_rfl
theorem open_lab {n : Nat} {cs : List Value} {x : DataW H × List MemPlace} (h : DataW.trod enc Tryd.prog W base (fun _ => true) held n 61 cs = some x) : ∃ a : Lab, cs = encLab.cells a ∧ True := by
  obtain ⟨y0, y1, n, _, hl, h0, h1⟩ := trod_struct2 Tryd.underlying61 h
  rw [show Tryd.prog.cellsOf 61 = 2 by kernel_rfl] at hl
  match cs, hl with
  | [a, b], _ =>
    obtain ⟨s, hs, _⟩ := DataW.trod_string ut_str h0
    obtain ⟨t, ht, _⟩ := DataW.trod_string ut_str h1
    rw [show Tryd.prog.cellsOf 9 = 1 by kernel_rfl] at hs ht
    have hs' : [a] = [Value.string s] := hs
    have ht' : [b] = [Value.string t] := ht
    cases hs'; cases ht'
    exact ⟨(s, t), rfl, trivial⟩
theorem open_smp {n : Nat} {cs : List Value} {x : DataW H × List MemPlace} (h : DataW.trod enc Tryd.prog W base (fun _ => true) held n 53 cs = some x) : ∃ a : Samp, cs = encSmp.cells a ∧ True := by
  obtain ⟨y0, y1, n, _, hl, h0, h1⟩ := trod_struct2 Tryd.underlying53 h
  rw [show Tryd.prog.cellsOf 53 = 2 by kernel_rfl] at hl
  match cs, hl with
  | [a, b], _ =>
    obtain ⟨s, hs, _⟩ := DataW.trod_int (k := .i64) (by kernel_rfl) h0
    obtain ⟨t, ht, _⟩ := DataW.trod_int (k := .u64) (by kernel_rfl) h1
    rw [show Tryd.prog.cellsOf 2 = 1 by kernel_rfl] at hs
    rw [show Tryd.prog.cellsOf 51 = 1 by kernel_rfl] at ht
    have hs' : [a] = [Value.int .i64 s] := hs
    have ht' : [b] = [Value.int .u64 t] := ht
    cases hs'; cases ht'
    exact ⟨(s, t), rfl, trivial⟩
theorem open_ser {n : Nat} {cs : List Value} {x : DataW H × List MemPlace} (h : DataW.trod enc Tryd.prog W base (fun _ => true) held n 43 cs = some x) : ∃ a : RSer, cs = encSer.cells a ∧ ∃ s : Ser, OSer W a s := by
  obtain ⟨y0, y1, n, _, hl, h0, h1⟩ := trod_struct2 Tryd.underlying43 h
  rw [show Tryd.prog.cellsOf 43 = 2 by kernel_rfl] at hl
  match cs, hl with
  | [a, b], _ =>
    rw [show Tryd.prog.cellsOf 40 = 1 by kernel_rfl] at h0
    rw [show Tryd.prog.cellsOf 41 = 1 by kernel_rfl] at h1
    obtain ⟨ls, o1, _⟩ := open_sl (E := encLab) (Q := fun _ => True) Tryd.underlying40 (by kernel_rfl) open_lab (v := a) h0
    obtain ⟨xs, o2, _⟩ := open_sl (E := encSmp) (Q := fun _ => True) Tryd.underlying41 (by kernel_rfl) open_smp (v := b) h1
    exact ⟨(a, b), rfl, (ls, xs), o1, o2⟩
theorem open_sers {n : Nat} {v : Value} {x : DataW H × List MemPlace} (h : DataW.trod enc Tryd.prog W base (fun _ => true) held n 29 [v] = some x) : ∃ ss, OSers W v ss := by
  obtain ⟨ws, o, q⟩ := open_sl (E := encSer) (Q := fun a => ∃ s, OSer W a s) Tryd.underlying29 (by kernel_rfl) open_ser h
  obtain ⟨ss, hl, hq⟩ := choose_list q
  exact ⟨ss, ws, o, hl, hq⟩
theorem open_bat {n : Nat} {cs : List Value} {x : DataW H × List MemPlace} (h : DataW.trod enc Tryd.prog W base (fun _ => true) held n 31 cs = some x) : ∃ a : RBat, cs = encBat.cells a ∧ ∃ b : Bat, OBat W a b := by
  obtain ⟨xs, n, _, _, hl, hxl, hall⟩ := DataW.trod_struct Tryd.underlying31 h
  rw [show Tryd.prog.cellsOf 31 = 4 by kernel_rfl] at hl
  match cs, hl, xs, hxl with
  | [a, b, c, d], _, [y0, y1, y2, y3], _ =>
    have h0 := hall 0 _ rfl
    have h1 := hall 1 _ rfl
    have h2 := hall 2 _ rfl
    have h3 := hall 3 _ rfl
    have k0 : DataW.trod enc Tryd.prog W base (fun _ => true) held n 9 (([a, b, c, d].drop 0).take (Tryd.prog.cellsOf 9)) = some y0 := h0
    have k1 : DataW.trod enc Tryd.prog W base (fun _ => true) held n 9 (([a, b, c, d].drop 1).take (Tryd.prog.cellsOf 9)) = some y1 := h1
    have k2 : DataW.trod enc Tryd.prog W base (fun _ => true) held n 2 (([a, b, c, d].drop 2).take (Tryd.prog.cellsOf 2)) = some y2 := h2
    have k3 : DataW.trod enc Tryd.prog W base (fun _ => true) held n 29 (([a, b, c, d].drop 3).take (Tryd.prog.cellsOf 29)) = some y3 := h3
    rw [show Tryd.prog.cellsOf 9 = 1 by kernel_rfl] at k0 k1
    rw [show Tryd.prog.cellsOf 2 = 1 by kernel_rfl] at k2
    rw [show Tryd.prog.cellsOf 29 = 1 by kernel_rfl] at k3
    obtain ⟨s, hs, _⟩ := DataW.trod_string ut_str k0
    obtain ⟨t, ht, _⟩ := DataW.trod_string ut_str k1
    obtain ⟨e, he, _⟩ := DataW.trod_int (k := .i64) (by kernel_rfl) k2
    obtain ⟨ss, o⟩ := open_sers (v := d) k3
    have hs' : [a] = [Value.string s] := hs
    have ht' : [b] = [Value.string t] := ht
    have he' : [c] = [Value.int .i64 e] := he
    cases hs'; cases ht'; cases he'
    exact ⟨⟨s, t, e, d⟩, rfl, ⟨s, t, e, ss⟩, rfl, rfl, rfl, o⟩
theorem open_bats {n : Nat} {v : Value} {x : DataW H × List MemPlace} (h : DataW.trod enc Tryd.prog W base (fun _ => true) held n 22 [v] = some x) : ∃ bs, OBats W v bs := by
  obtain ⟨ws, o, q⟩ := open_sl (E := encBat) (Q := fun a => ∃ b, OBat W a b) Tryd.underlying22 (by kernel_rfl) open_bat h
  obtain ⟨bs, hl, hq⟩ := choose_list q
  exact ⟨bs, ws, o, hl, hq⟩
end
theorem flat_lab (x : Lab) : ((encLab.cells x).all flat) = true := by
  simp only [encLab, List.all_cons, List.all_nil, Bool.and_true, Bool.and_eq_true]
  exact ⟨rfl, rfl⟩
theorem flat_smp (x : Samp) : ((encSmp.cells x).all flat) = true := by
  simp only [encSmp, List.all_cons, List.all_nil, Bool.and_true, Bool.and_eq_true]
  exact ⟨rfl, rfl⟩
section
variable {μ : Mu} {h : Heap} {n : Nat} {W : World} {v : Value}
theorem add_sers (hr : Rel Tryd.prog μ h n W) (ro : ∀ b o, h.get b = some o → o.excl = false) {ss : List Ser} (o : OSers W v ss) :
    ∃ (μ' : Mu) (h' : Heap) (n' : Nat) (a : Option Addr) (cp : Nat) (rs : List RSer), Rel Tryd.prog μ' h' n' W ∧ (∀ b o, h'.get b = some o → o.excl = false) ∧ h.sub h' ∧ μ.le μ' ∧ VRel μ' (.slice a rs.length cp) v ∧ FRow encSer h' (.slice a rs.length cp) rs ∧ FSers h' rs ss ∧ rs.length < 9223372036854775808 := by
  obtain ⟨ws, o1, hl, hO⟩ := o
  obtain ⟨m1, k1, n1, az, r1, ro1, s1, l1, e1, x1, y1⟩ := add_list (α := RSer) (W := W) (OSer W) (fun μ (a : RSer) (b : RSer) => VRel μ a.1 b.1 ∧ VRel μ a.2 b.2) FSer (fun μ μ' a b l q => ⟨q.1.mono l, q.2.mono l⟩) (fun h h' a c s q => q.keep (.sub s)) (fun μ h n b c hr ro q => by
    obtain ⟨m1, k1, n1, a1, p1, r1, ro1, s1, l1, x1, y1, _⟩ := add_sl encLab encLab rfl hr ro q.1 rfl (row_flat encLab flat_lab)
    obtain ⟨m2, k2, n2, a2, p2, r2, ro2, s2, l2, x2, y2, _⟩ := add_sl encSmp encSmp rfl r1 ro1 q.2 rfl (row_flat encSmp flat_smp)
    exact ⟨m2, k2, n2, (.slice a1 c.1.length p1, .slice a2 c.2.length p2), r2, ro2, Heap.sub_trans s1 s2, Mu.le_trans l1 l2, ⟨x1.mono l2, x2⟩, y1.keep (.sub s2), y2⟩) ws ss μ h n hl hO hr ro
  obtain ⟨m2, k2, n2, a, cp, r2, ro2, s2, l2, x2, y2, z2, _⟩ := add_sl encSer encSer rfl r1 ro1 o1 e1 (row_rel encSer encSer rfl fun i a b ha hb j y y' hy hy' => by
    have q := x1 i a b ha hb
    match j, hy, hy' with
    | 0, hy, hy' => cases hy; cases hy'; exact q.1
    | 1, hy, hy' => cases hy; cases hy'; exact q.2
    | j + 2, hy, _ => simp [encSer] at hy)
  exact ⟨m2, k2, n2, a, cp, az, r2, ro2, Heap.sub_trans s1 s2, Mu.le_trans l1 l2, x2, y2, ⟨by rw [e1, hl], fun i r s a b => (y1 i r s a b).keep (.sub s2)⟩, z2⟩
theorem add_bats (hr : Rel Tryd.prog μ h n W) (ro : ∀ b o, h.get b = some o → o.excl = false) {bs : List Bat} (o : OBats W v bs) :
    ∃ (μ' : Mu) (h' : Heap) (n' : Nat) (a : Option Addr) (cp : Nat) (rs : List RBat), Rel Tryd.prog μ' h' n' W ∧ (∀ b o, h'.get b = some o → o.excl = false) ∧ h.sub h' ∧ μ.le μ' ∧ VRel μ' (.slice a rs.length cp) v ∧ FRow encBat h' (.slice a rs.length cp) rs ∧ FBats h' rs bs ∧ rs.length < 9223372036854775808 := by
  obtain ⟨ws, o1, hl, hO⟩ := o
  obtain ⟨m1, k1, n1, az, r1, ro1, s1, l1, e1, x1, y1⟩ := add_list (α := RBat) (W := W) (OBat W) (fun μ (a : RBat) (b : RBat) => a.ten = b.ten ∧ a.clu = b.clu ∧ a.epo = b.epo ∧ VRel μ a.ser b.ser) FBat (fun μ μ' a b l q => ⟨q.1, q.2.1, q.2.2.1, q.2.2.2.mono l⟩) (fun h h' a c s q => q.keep (.sub s)) (fun μ h n b c hr ro q => by
    obtain ⟨m1, k1, n1, a1, p1, rs, r1, ro1, s1, l1, x1, y1, z1, _⟩ := add_sers hr ro q.2.2.2
    exact ⟨m1, k1, n1, ⟨b.ten, b.clu, b.epo, .slice a1 rs.length p1⟩, r1, ro1, s1, l1, ⟨rfl, rfl, rfl, x1⟩, q.1, q.2.1, q.2.2.1, rs, y1, z1⟩) ws bs μ h n hl hO hr ro
  obtain ⟨m2, k2, n2, a, cp, r2, ro2, s2, l2, x2, y2, z2, _⟩ := add_sl encBat encBat rfl r1 ro1 o1 e1 (row_rel encBat encBat rfl fun i a b ha hb j y y' hy hy' => by
    obtain ⟨q1, q2, q3, q4⟩ := x1 i a b ha hb
    match j, hy, hy' with
    | 0, hy, hy' => cases hy; cases hy'; rw [q1]; exact .string _
    | 1, hy, hy' => cases hy; cases hy'; rw [q2]; exact .string _
    | 2, hy, hy' => cases hy; cases hy'; rw [q3]; exact .int _ _
    | 3, hy, hy' => cases hy; cases hy'; exact q4
    | j + 4, hy, _ => simp [encBat] at hy)
  exact ⟨m2, k2, n2, a, cp, az, r2, ro2, Heap.sub_trans s1 s2, Mu.le_trans l1 l2, x2, y2, ⟨by rw [e1, hl], fun i r s a b => (y1 i r s a b).keep (.sub s2)⟩, z2⟩
end
theorem law_calls {W : World} {f : FuncId} {args args' : Array Value} {μ : Mu} {h : Heap} {n : Nat} (ro : ∀ b o, h.get b = some o → o.excl = false) (hr : Rel Tryd.prog μ h n W) (ha : ARel μ args args') (c : Tells Tryd.prog f args.toList h n (.bool true)) :
    Calls Tryd.prog f args' W fun e W' => e = .returned (.bool true) ∧ Below W.heap.size W W' :=
  calls_of_acall ro hr ha rfl (ACall.mono c fun _ h' _ _ _ ⟨e, _, _⟩ => ⟨h', Heap.sub_refl _, e⟩)
end Go.Proofs.YtkpaklofdkjinaaDoor
