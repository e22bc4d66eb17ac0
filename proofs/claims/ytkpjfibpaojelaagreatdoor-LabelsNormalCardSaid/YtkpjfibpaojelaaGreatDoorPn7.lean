/- texts of the claim, part 7: LabX16 LabX17 LabPure LabPure2 LabPure3 LabBack LabNorm LabOpn. -/
import Derived.Test.YtkpjfibpaojelaaGreatDoorPn6
import Derived.SevenTiedAt
namespace Go.Proofs.YtkpjfibpaojelaaGreatDoor
open Go Go.Abs
set_option maxRecDepth 100000
set_option maxHeartbeats 4000000
def qR (c : Nat) : List UInt8 := (if c = 34 ∨ c = 92 then [92] else []) ++ (if 126 < c then [92, 117, 123] ++ hexL c ++ [125] else encR c)
def qV (ds : List (Nat × Nat)) : List UInt8 := ds.flatMap fun d => qR d.1
theorem qV_snoc (ds : List (Nat × Nat)) (d : Nat × Nat) : qV (ds ++ [d]) = qV ds ++ qR d.1 := by unfold qV; rw [List.flatMap_append]; simp
theorem qR_len {c : Nat} (h : c < 4294967296) : (qR c).length ≤ 13 := by
  unfold qR
  have h1 := hexL_eight h
  have h2 := enc_len (c : Int)
  rw [List.length_append]
  split <;> split <;> simp only [List.length_append, List.length_cons, List.length_nil] <;> omega
def quoteB (v : ByteArray) : List UInt8 := [34] ++ qV (decs v.data.toList) ++ [34]
theorem dec_pos (s : ByteArray) (p : Nat) : isR ((Utf8.decode s p).1 : Nat) := by rw [← Lib.decodeL_drop]; exact dec_isR _
theorem qR_esc {c : Nat} (h : c = 34 ∨ c = 92) : qR c = [92] ++ encR c := by unfold qR; rw [if_pos h, if_neg (by omega)]
theorem qR_plain {c : Nat} (h : ¬ c = 34) (h2 : ¬ c = 92) (h3 : ¬ 126 < c) : qR c = encR c := by unfold qR; rw [if_neg (by omega), if_neg h3]; rfl
theorem qR_hex {c : Nat} (h3 : 126 < c) : qR c = ((⟨#[92, 117, 123]⟩ : ByteArray) ++ strB (hexL c) ++ (⟨#[125]⟩ : ByteArray)).data.toList := by
  unfold qR
  rw [if_neg (by omega), if_pos h3, ByteArray.data_append, ByteArray.data_append, Array.toList_append, Array.toList_append]
  rfl
theorem f38_spec {h : Heap} {n : Nat} (s : ByteArray) (hls : s.data.toList.length < 1000000000) (hld : Laid0 h) :
    Tells Tryz.prog 38 [.string (s)] h n (.string (strB (quoteB s))) := by
  refine Makes.tells (Makes.free fun hf => ?_)
  have hs : SubBut h h ([]) := .refl _ _
  have hn : n ≤ n := Nat.le_refl _
  have hf0 := hf
  refine Makes.of_bodyV (args := [.string (s)]) (vs := [.string (s), undef, undef, undef, undef, undef, undef, undef, undef, undef, undef, undef, undef, undef, undef, undef, undef, undef, undef, undef, undef, undef, undef, undef, undef, undef, undef, undef, undef, undef, undef, undef, undef, undef, undef]) Tryz.func38 rfl rfl ?_
  refine AWp.seq (AWp.rowV (l := _) pok ?_)
  refine sq.c (v := .string (⟨#[]⟩)) rfl rfl rfl rfl ?_
  refine sq.e (AWp.seq (AWp.rowV (l := _) pok ?_))
  have z_n : h.get n = none := hf0 _ hn
  refine sq.op rfl rfl (Does.alloc (cs := [.pointer none, .slice none (0) (0)]) hf (z := .agg #[.pointer none, .slice none (0) (0)]) (by kernel_rfl) rfl) ?_
  rintro _ h2 n3 ⟨rfl, hb1⟩ s4 hn2 hf
  refine sq.w ?_
  have hs := hs.trans s4
  have hn := Nat.le_trans hn hn2
  refine sq.e (AWp.seq (AWp.rowV (l := _) pok ?_))
  have hfo := hf
  refine sq.k rfl (CallsF.fn rfl (by kernel_rfl) rfl rfl) (f60_spec ([]) (.inl rfl) hb1 OwnRow.nil (by simp [blkOf]) (by first | omega | (simp only [List.length_append, List.length_cons, List.length_nil]; omega)) (34)) ?_
  rintro u8 h9 n10 ⟨a5, cp6, hb7, R_r, hB_, d_r_n⟩ s11 hn2 hf
  refine sq.w ?_
  have hs := SubBut.own2 (v := .slice none 0 0) hs z_n (by simp [blkOf]) hf0 s11
  have B_r : ∀ c ∈ blkOf (.slice a5 ([] ++ [34]).length cp6), c ∈ [] ∨ n ≤ c := fun c hc => (hB_ c hc).elim (fun q => absurd q (by simp [blkOf])) (fun q => .inr (Nat.le_trans hn q))
  have hn := Nat.le_trans hn hn2
  refine sq.e (AWp.seq (AWp.seq (AWp.rowV (l := _) pok ?_)))
  refine sq.c (v := .string (s)) rfl rfl rfl rfl ?_
  have e_n_n10 : n ≠ n10 := hf.ne hb7
  have d_r_n10 : ∀ c ∈ blkOf (.slice a5 ([] ++ [34]).length cp6), c ≠ n10 := fun c hc e => R_r.ne' (hf _ (Nat.le_refl _)) c hc (List.mem_singleton.2 e)
  have z_n10 : h.get n10 = none := hf0 _ hn
  refine sq.op rfl rfl (Does.range (s := s) hf (by kernel_rfl) rfl) ?_
  rintro _ h13 n14 ⟨rfl, hb12⟩ s15 hn2 hf
  refine sq.w ?_
  have hb7 := s15.sub _ _ hb7
  have R_r := R_r.keep s15
  have hs := hs.trans s15
  have hn := Nat.le_trans hn hn2
  refine sq.e (AWp.block ?_)
  refine AWp.loopV (fun d vs h17 n18 => ∃ (p : Nat) (zs : List UInt8) (ds : List (Nat × Nat)) (a_r : Option Addr) (cp_r : Nat), d = s.data.toList.length - p + 1 ∧ SubBut h h17 ([]) ∧ n ≤ n18 ∧ Free h17 n18 ∧ h17.get n = some (.cells [.pointer (some ⟨n, 0, none⟩), .slice a_r (zs.length) cp_r] true ⟨72, 0, true⟩) ∧ h17.get n10 = some (.siter (s) p) ∧ OwnRow encByte 5 (Trie.nil : Heap) h17 (.slice a_r (zs).length cp_r) (zs) ∧ (∀ c ∈ blkOf (.slice a_r (zs).length cp_r), c ≠ n) ∧ (∀ c ∈ blkOf (.slice a_r (zs).length cp_r), c ≠ n10) ∧ (∀ c ∈ blkOf (.slice a_r (zs).length cp_r), c ∈ [] ∨ n ≤ c) ∧ (p ≤ s.data.toList.length) ∧ (zs.length ≤ 1 + 13 * p) ∧ (decs s.data.toList = ds ++ decs (s.data.toList.drop p)) ∧ (zs = [34] ++ qV ds) ∧ ∃ y16 : Nat → Value, vs = [.string (s), undef, .string (⟨#[]⟩), .pointer (some ⟨n, 0, none⟩), undef, (y16 5), u8, .string (s), .pointer (some ⟨n10, 0, none⟩), (y16 9), (y16 10), (y16 11), (y16 12), (y16 13), (y16 14), (y16 15), (y16 16), (y16 17), (y16 18), (y16 19), (y16 20), (y16 21), (y16 22), (y16 23), (y16 24), (y16 25), (y16 26), (y16 27), (y16 28), (y16 29), (y16 30), (y16 31), (y16 32), undef, undef]) (s.data.toList.length - 0 + 1) ⟨0, [34], [], a5, cp6, rfl, hs, hn, hf, hb7, hb12, R_r, d_r_n, d_r_n10, B_r, (by omega), (by simp), (by simp), (rfl), getV [undef, undef, undef, undef, undef, undef, undef, undef, undef, undef, undef, undef, undef, undef, undef, undef, undef, undef, undef, undef, undef, undef, undef, undef, undef, undef, undef, undef, undef, undef, undef, undef, undef], rfl⟩ ?_
  rintro d vs h17 n18 ⟨p, zs, ds, a_r, cp_r, rfl, hs, hn, hf, hb7, hb12, R_r, d_r_n, d_r_n10, B_r, hp, hzl, hr, hq, y16, rfl⟩
  have hcr := dec_pos s p
  unfold isR at hcr
  have hh8 := hexL_eight (n := (Utf8.decode s p).1) (by omega)
  have hql := qR_len (c := (Utf8.decode s p).1) (by omega)
  refine AWp.seq (AWp.rowV (l := _) pok ?_)
  by_cases c4_0 : p < (s).data.toList.length
  · skip
    refine sq.op rfl rfl (Does.nextYes hf rfl hb12 c4_0) ?_
    rintro _ h21 n22 ⟨rfl, hb19⟩ s23 hn2 hf
    refine sq.w ?_
    have hb7 := s23.get1 (e_n_n10) hb7
    have R_r := R_r.but s23 (fun c hc hm => d_r_n10 c hc (List.mem_singleton.1 hm))
    have hs := hs.fresh z_n10 s23
    have hn := Nat.le_trans hn hn2
    refine sq.c (v := .bool true) rfl rfl rfl rfl ?_
    refine sq.e (AWp.seq ?_)
    refine AWp.condT rfl rfl ?_
    refine AWp.skip (AWp.block (AWp.seq (AWp.rowV (l := _) pok ?_)))
    refine sq.c (v := .int .i32 ((Utf8.decode (s) p).1)) rfl rfl rfl rfl ?_
    refine sq.c (v := .int .i32 ((Utf8.decode (s) p).1)) rfl rfl rfl rfl ?_
    refine sq.e (AWp.block (AWp.seq (AWp.rowV (l := _) pok ?_)))
    refine sq.c (v := .int .i32 ((Utf8.decode (s) p).1)) rfl rfl rfl rfl ?_
    refine sq.c (v := .bool (decide (((Utf8.decode (s) p).1) = (34 : Int)))) rfl rfl rfl rfl ?_
    refine sq.c (v := .bool (decide (((Utf8.decode (s) p).1) = (34 : Int)))) rfl rfl rfl rfl ?_
    by_cases c7_1 : ((Utf8.decode (s) p).1) = (34 : Int)
    · rw [decide_eq_true c7_1]
      refine sq.s (wantF (g := 2) (d := 17) rfl rfl rfl) rfl ?_
      refine sq.s (wantF (g := 2) (d := 17) rfl rfl rfl) rfl ?_
      refine sq.c (v := .bool true) rfl rfl rfl rfl ?_
      refine sq.c (v := .bool true) rfl rfl rfl rfl ?_
      refine sq.e ?_
      refine AWp.condT rfl rfl ?_
      refine AWp.seq (AWp.rowV (l := _) pok ?_)
      have hfo := hf
      refine sq.k rfl (CallsF.fn rfl (by kernel_rfl) rfl rfl) (f60_spec zs (.inr rfl) hb7 R_r d_r_n (by first | omega | (simp only [List.length_append, List.length_cons, List.length_nil]; omega)) (92)) ?_
      rintro u27 h28 n29 ⟨a24, cp25, hb26, R_r, hB_, d_r_n⟩ s30 hn2 hf
      refine sq.w ?_
      have dn_n10 : ∀ c ∈ blkOf (.slice a24 (zs ++ [92]).length cp25), c ≠ n10 := fun c hc => (hB_ c hc).elim (fun q => d_r_n10 c q) (fun q e => by rw [e] at q; have := hfo _ q; rw [hb19] at this; cases this)
      have hb19 := s30 _ _ (fun hm => (List.mem_cons.1 hm).elim (Ne.symm e_n_n10) (fun q => d_r_n10 _ q rfl)) hb19
      have hs := SubBut.own2 (v := .slice a_r (zs).length cp_r) hs z_n B_r hf0 s30
      have B_r : ∀ c ∈ blkOf (.slice a24 (zs ++ [92]).length cp25), c ∈ [] ∨ n ≤ c := fun c hc => (hB_ c hc).elim (B_r c) (fun q => .inr (Nat.le_trans hn q))
      have hn := Nat.le_trans hn hn2
      have d_r_n10 := dn_n10
      refine sq.e (AWp.rowV (l := _) pok ?_)
      refine sq.c (v := .int .i32 ((Utf8.decode (s) p).1)) rfl rfl rfl rfl ?_
      have hfo := hf
      refine sq.k rfl (CallsF.fn rfl (by kernel_rfl) rfl rfl) (f61_spec (zs ++ [92]) (.inr rfl) hb26 R_r d_r_n (by first | omega | (simp only [List.length_append, List.length_cons, List.length_nil]; omega)) (((Utf8.decode s p).1 : Nat) : Int) (dec_pos s p)) ?_
      rintro u34 h35 n36 ⟨a31, cp32, hb33, R_r, hB_, d_r_n⟩ s37 hn2 hf
      refine sq.w ?_
      have dn_n10 : ∀ c ∈ blkOf (.slice a31 ((zs ++ [92]) ++ (encR (((Utf8.decode s p).1 : Nat) : Int))).length cp32), c ≠ n10 := fun c hc => (hB_ c hc).elim (fun q => d_r_n10 c q) (fun q e => by rw [e] at q; have := hfo _ q; rw [hb19] at this; cases this)
      have hb19 := s37 _ _ (fun hm => (List.mem_cons.1 hm).elim (Ne.symm e_n_n10) (fun q => d_r_n10 _ q rfl)) hb19
      have hs := SubBut.own2 (v := .slice a24 (zs ++ [92]).length cp25) hs z_n B_r hf0 s37
      have B_r : ∀ c ∈ blkOf (.slice a31 ((zs ++ [92]) ++ (encR (((Utf8.decode s p).1 : Nat) : Int))).length cp32), c ∈ [] ∨ n ≤ c := fun c hc => (hB_ c hc).elim (B_r c) (fun q => .inr (Nat.le_trans hn q))
      have hn := Nat.le_trans hn hn2
      have d_r_n10 := dn_n10
      refine sq.e ?_
      obtain ⟨q1, q2, q3⟩ := decode_step s p c4_0
      refine ⟨_, _, rfl, by omega, _, (zs ++ [92]) ++ encR (((Utf8.decode s p).1 : Nat) : Int), ds ++ [Utf8.decode s p], a31, cp32, rfl, hs, hn, hf, hb33, hb19, R_r, d_r_n, d_r_n10, B_r, (by omega), (by rw [List.append_assoc, ← qR_esc (by omega), List.length_append]; omega), (by rw [hr, q1]; simp), (by rw [hq, qV_snoc, qR_esc (by omega)]; simp only [List.append_assoc]), getV [undef, undef, undef, undef, undef, .int .i32 ((Utf8.decode (s) p).1), undef, undef, undef, .tuple #[.bool true, .int .i64 (p), .int .i32 ((Utf8.decode (s) p).1)], .bool true, .int .i32 ((Utf8.decode (s) p).1), (y16 12), (y16 13), .bool true, .int .i32 ((Utf8.decode (s) p).1), .bool true, .bool true, undef, undef, .bool true, u27, .int .i32 ((Utf8.decode (s) p).1), u34, (y16 24), (y16 25), (y16 26), (y16 27), (y16 28), (y16 29), (y16 30), (y16 31), (y16 32)], rfl⟩
    · rw [decide_eq_false c7_1]
      refine sq.c (v := .int .i32 ((Utf8.decode (s) p).1)) (wantT (g := 2) (d := 17) rfl rfl rfl) rfl rfl rfl ?_
      refine sq.c (v := .bool (decide (((Utf8.decode (s) p).1) = (92 : Int)))) (wantT (g := 2) (d := 17) rfl rfl rfl) rfl rfl rfl ?_
      refine sq.c (v := .bool (decide (((Utf8.decode (s) p).1) = (92 : Int)))) rfl rfl rfl rfl ?_
      refine sq.c (v := .bool (decide (((Utf8.decode (s) p).1) = (92 : Int)))) rfl rfl rfl rfl ?_
      refine sq.e ?_
      by_cases c7_4 : ((Utf8.decode (s) p).1) = (92 : Int)
      · rw [decide_eq_true c7_4]
        refine AWp.condT rfl rfl ?_
        refine AWp.seq (AWp.rowV (l := _) pok ?_)
        have hfo := hf
        refine sq.k rfl (CallsF.fn rfl (by kernel_rfl) rfl rfl) (f60_spec zs (.inr rfl) hb7 R_r d_r_n (by first | omega | (simp only [List.length_append, List.length_cons, List.length_nil]; omega)) (92)) ?_
        rintro u41 h42 n43 ⟨a38, cp39, hb40, R_r, hB_, d_r_n⟩ s44 hn2 hf
        refine sq.w ?_
        have dn_n10 : ∀ c ∈ blkOf (.slice a38 (zs ++ [92]).length cp39), c ≠ n10 := fun c hc => (hB_ c hc).elim (fun q => d_r_n10 c q) (fun q e => by rw [e] at q; have := hfo _ q; rw [hb19] at this; cases this)
        have hb19 := s44 _ _ (fun hm => (List.mem_cons.1 hm).elim (Ne.symm e_n_n10) (fun q => d_r_n10 _ q rfl)) hb19
        have hs := SubBut.own2 (v := .slice a_r (zs).length cp_r) hs z_n B_r hf0 s44
        have B_r : ∀ c ∈ blkOf (.slice a38 (zs ++ [92]).length cp39), c ∈ [] ∨ n ≤ c := fun c hc => (hB_ c hc).elim (B_r c) (fun q => .inr (Nat.le_trans hn q))
        have hn := Nat.le_trans hn hn2
        have d_r_n10 := dn_n10
        refine sq.e (AWp.rowV (l := _) pok ?_)
        refine sq.c (v := .int .i32 ((Utf8.decode (s) p).1)) rfl rfl rfl rfl ?_
        have hfo := hf
        refine sq.k rfl (CallsF.fn rfl (by kernel_rfl) rfl rfl) (f61_spec (zs ++ [92]) (.inr rfl) hb40 R_r d_r_n (by first | omega | (simp only [List.length_append, List.length_cons, List.length_nil]; omega)) (((Utf8.decode s p).1 : Nat) : Int) (dec_pos s p)) ?_
        rintro u48 h49 n50 ⟨a45, cp46, hb47, R_r, hB_, d_r_n⟩ s51 hn2 hf
        refine sq.w ?_
        have dn_n10 : ∀ c ∈ blkOf (.slice a45 ((zs ++ [92]) ++ (encR (((Utf8.decode s p).1 : Nat) : Int))).length cp46), c ≠ n10 := fun c hc => (hB_ c hc).elim (fun q => d_r_n10 c q) (fun q e => by rw [e] at q; have := hfo _ q; rw [hb19] at this; cases this)
        have hb19 := s51 _ _ (fun hm => (List.mem_cons.1 hm).elim (Ne.symm e_n_n10) (fun q => d_r_n10 _ q rfl)) hb19
        have hs := SubBut.own2 (v := .slice a38 (zs ++ [92]).length cp39) hs z_n B_r hf0 s51
        have B_r : ∀ c ∈ blkOf (.slice a45 ((zs ++ [92]) ++ (encR (((Utf8.decode s p).1 : Nat) : Int))).length cp46), c ∈ [] ∨ n ≤ c := fun c hc => (hB_ c hc).elim (B_r c) (fun q => .inr (Nat.le_trans hn q))
        have hn := Nat.le_trans hn hn2
        have d_r_n10 := dn_n10
        refine sq.e ?_
        obtain ⟨q1, q2, q3⟩ := decode_step s p c4_0
        refine ⟨_, _, rfl, by omega, _, (zs ++ [92]) ++ encR (((Utf8.decode s p).1 : Nat) : Int), ds ++ [Utf8.decode s p], a45, cp46, rfl, hs, hn, hf, hb47, hb19, R_r, d_r_n, d_r_n10, B_r, (by omega), (by rw [List.append_assoc, ← qR_esc (by omega), List.length_append]; omega), (by rw [hr, q1]; simp), (by rw [hq, qV_snoc, qR_esc (by omega)]; simp only [List.append_assoc]), getV [undef, undef, undef, undef, undef, .int .i32 ((Utf8.decode (s) p).1), undef, undef, undef, .tuple #[.bool true, .int .i64 (p), .int .i32 ((Utf8.decode (s) p).1)], .bool true, .int .i32 ((Utf8.decode (s) p).1), (y16 12), (y16 13), .bool true, .int .i32 ((Utf8.decode (s) p).1), .bool false, .bool false, .int .i32 ((Utf8.decode (s) p).1), .bool true, .bool true, u41, .int .i32 ((Utf8.decode (s) p).1), u48, (y16 24), (y16 25), (y16 26), (y16 27), (y16 28), (y16 29), (y16 30), (y16 31), (y16 32)], rfl⟩
      · rw [decide_eq_false c7_4]
        refine AWp.condF rfl rfl ?_
        refine AWp.seq (AWp.rowV (l := _) pok ?_)
        refine sq.c (v := .int .i32 ((Utf8.decode (s) p).1)) rfl rfl rfl rfl ?_
        refine sq.c (v := .bool (decide ((126 : Int) < ((Utf8.decode (s) p).1)))) rfl rfl rfl rfl ?_
        refine sq.c (v := .bool (decide ((126 : Int) < ((Utf8.decode (s) p).1)))) rfl rfl rfl rfl ?_
        refine sq.e ?_
        by_cases c10_1 : (126 : Int) < ((Utf8.decode (s) p).1)
        · rw [decide_eq_true c10_1]
          refine AWp.condT rfl rfl ?_
          refine AWp.rowV (l := _) pok ?_
          refine sq.c (v := .int .i32 ((Utf8.decode (s) p).1)) rfl rfl rfl rfl ?_
          refine sq.c (v := .int .i64 ((Utf8.decode (s) p).1)) rfl rfl (Eq.trans (b := some (.int .i64 (IntKind.i64.wrap ((Utf8.decode (s) p).1)))) (by kernel_rfl) (okI (wrap_i64 (by omega) (by omega)))) rfl ?_
          refine sq.t (v := .string (strB (hexL (Utf8.decode s p).1))) rfl (CallsF.fn rfl (by kernel_rfl) rfl rfl) (fun hf => f63_spec (((Utf8.decode s p).1 : Nat) : Int) (by omega) (by omega) (hld.keep hs)) hf rfl ?_
          intro n52 hn2 hf
          have hn := Nat.le_trans hn hn2
          refine sq.c (v := .string ((⟨#[92, 117, 123]⟩ : ByteArray) ++ strB (hexL (Utf8.decode s p).1))) rfl rfl (add_str (a := (⟨#[92, 117, 123]⟩ : ByteArray)) (b := strB (hexL (Utf8.decode s p).1)) (by show 3 + (hexL (Utf8.decode s p).1).length < _; omega)) rfl ?_
          refine sq.c (v := .string (((⟨#[92, 117, 123]⟩ : ByteArray) ++ strB (hexL (Utf8.decode s p).1) ++ (⟨#[125]⟩ : ByteArray)))) rfl rfl (add_str (a := (⟨#[92, 117, 123]⟩ : ByteArray) ++ strB (hexL (Utf8.decode s p).1)) (b := (⟨#[125]⟩ : ByteArray)) (by rw [add_len]; show 3 + (hexL (Utf8.decode s p).1).length + 1 < _; omega)) rfl ?_
          have hfo := hf
          refine sq.k rfl (CallsF.fn rfl (by kernel_rfl) rfl rfl) (f62_spec zs (.inr rfl) hb7 R_r d_r_n (by first | omega | (simp only [List.length_append, List.length_cons, List.length_nil]; omega)) ((⟨#[92, 117, 123]⟩ : ByteArray) ++ strB (hexL (Utf8.decode s p).1) ++ (⟨#[125]⟩ : ByteArray)) (by rw [← qR_hex (by omega)]; omega)) ?_
          rintro u56 h57 n58 ⟨a53, cp54, hb55, R_r, hB_, d_r_n⟩ s59 hn2 hf
          refine sq.w ?_
          have dn_n10 : ∀ c ∈ blkOf (.slice a53 (zs ++ ((⟨#[92, 117, 123]⟩ : ByteArray) ++ strB (hexL (Utf8.decode s p).1) ++ (⟨#[125]⟩ : ByteArray)).data.toList).length cp54), c ≠ n10 := fun c hc => (hB_ c hc).elim (fun q => d_r_n10 c q) (fun q e => by rw [e] at q; have := hfo _ q; rw [hb19] at this; cases this)
          have hb19 := s59 _ _ (fun hm => (List.mem_cons.1 hm).elim (Ne.symm e_n_n10) (fun q => d_r_n10 _ q rfl)) hb19
          have hs := SubBut.own2 (v := .slice a_r (zs).length cp_r) hs z_n B_r hf0 s59
          have B_r : ∀ c ∈ blkOf (.slice a53 (zs ++ ((⟨#[92, 117, 123]⟩ : ByteArray) ++ strB (hexL (Utf8.decode s p).1) ++ (⟨#[125]⟩ : ByteArray)).data.toList).length cp54), c ∈ [] ∨ n ≤ c := fun c hc => (hB_ c hc).elim (B_r c) (fun q => .inr (Nat.le_trans hn q))
          have hn := Nat.le_trans hn hn2
          have d_r_n10 := dn_n10
          refine sq.e ?_
          obtain ⟨q1, q2, q3⟩ := decode_step s p c4_0
          refine ⟨_, _, rfl, by omega, _, zs ++ ((⟨#[92, 117, 123]⟩ : ByteArray) ++ strB (hexL (Utf8.decode s p).1) ++ (⟨#[125]⟩ : ByteArray)).data.toList, ds ++ [Utf8.decode s p], a53, cp54, rfl, hs, hn, hf, hb55, hb19, R_r, d_r_n, d_r_n10, B_r, (by omega), (by rw [← qR_hex (by omega), List.length_append]; omega), (by rw [hr, q1]; simp), (by rw [hq, qV_snoc, qR_hex (by omega), List.append_assoc]), getV [undef, undef, undef, undef, undef, .int .i32 ((Utf8.decode (s) p).1), undef, undef, undef, .tuple #[.bool true, .int .i64 (p), .int .i32 ((Utf8.decode (s) p).1)], .bool true, .int .i32 ((Utf8.decode (s) p).1), (y16 12), (y16 13), .bool false, .int .i32 ((Utf8.decode (s) p).1), .bool false, .bool false, .int .i32 ((Utf8.decode (s) p).1), .bool false, .bool false, (y16 21), (y16 22), (y16 23), .bool true, .int .i32 ((Utf8.decode (s) p).1), .bool true, .int .i32 ((Utf8.decode (s) p).1), .int .i64 ((Utf8.decode (s) p).1), .string (strB (hexL (Utf8.decode s p).1)), .string ((⟨#[92, 117, 123]⟩ : ByteArray) ++ strB (hexL (Utf8.decode s p).1)), .string (((⟨#[92, 117, 123]⟩ : ByteArray) ++ strB (hexL (Utf8.decode s p).1) ++ (⟨#[125]⟩ : ByteArray))), u56], rfl⟩
        · rw [decide_eq_false c10_1]
          refine AWp.condF rfl rfl ?_
          refine AWp.rowV (l := _) pok ?_
          refine sq.c (v := .int .i32 ((Utf8.decode (s) p).1)) rfl rfl rfl rfl ?_
          have hfo := hf
          refine sq.k rfl (CallsF.fn rfl (by kernel_rfl) rfl rfl) (f61_spec zs (.inr rfl) hb7 R_r d_r_n (by first | omega | (simp only [List.length_append, List.length_cons, List.length_nil]; omega)) (((Utf8.decode s p).1 : Nat) : Int) (dec_pos s p)) ?_
          rintro u63 h64 n65 ⟨a60, cp61, hb62, R_r, hB_, d_r_n⟩ s66 hn2 hf
          refine sq.w ?_
          have dn_n10 : ∀ c ∈ blkOf (.slice a60 (zs ++ (encR (((Utf8.decode s p).1 : Nat) : Int))).length cp61), c ≠ n10 := fun c hc => (hB_ c hc).elim (fun q => d_r_n10 c q) (fun q e => by rw [e] at q; have := hfo _ q; rw [hb19] at this; cases this)
          have hb19 := s66 _ _ (fun hm => (List.mem_cons.1 hm).elim (Ne.symm e_n_n10) (fun q => d_r_n10 _ q rfl)) hb19
          have hs := SubBut.own2 (v := .slice a_r (zs).length cp_r) hs z_n B_r hf0 s66
          have B_r : ∀ c ∈ blkOf (.slice a60 (zs ++ (encR (((Utf8.decode s p).1 : Nat) : Int))).length cp61), c ∈ [] ∨ n ≤ c := fun c hc => (hB_ c hc).elim (B_r c) (fun q => .inr (Nat.le_trans hn q))
          have hn := Nat.le_trans hn hn2
          have d_r_n10 := dn_n10
          refine sq.e ?_
          obtain ⟨q1, q2, q3⟩ := decode_step s p c4_0
          refine ⟨_, _, rfl, by omega, _, zs ++ encR (((Utf8.decode s p).1 : Nat) : Int), ds ++ [Utf8.decode s p], a60, cp61, rfl, hs, hn, hf, hb62, hb19, R_r, d_r_n, d_r_n10, B_r, (by omega), (by rw [← qR_plain (by omega) (by omega) (by omega), List.length_append]; omega), (by rw [hr, q1]; simp), (by rw [hq, qV_snoc, qR_plain (by omega) (by omega) (by omega), List.append_assoc]), getV [undef, undef, undef, undef, undef, .int .i32 ((Utf8.decode (s) p).1), undef, undef, undef, .tuple #[.bool true, .int .i64 (p), .int .i32 ((Utf8.decode (s) p).1)], .bool true, .int .i32 ((Utf8.decode (s) p).1), .int .i32 ((Utf8.decode (s) p).1), u63, .bool false, .int .i32 ((Utf8.decode (s) p).1), .bool false, .bool false, .int .i32 ((Utf8.decode (s) p).1), .bool false, .bool false, (y16 21), (y16 22), (y16 23), .bool false, .int .i32 ((Utf8.decode (s) p).1), .bool false, (y16 27), (y16 28), (y16 29), (y16 30), (y16 31), (y16 32)], rfl⟩
  · skip
    refine sq.op rfl rfl (Does.nextNo hf rfl hb12 c4_0) ?_
    rintro _ h67 n68 rfl s69 hn2 hf
    refine sq.w ?_
    have hb7 := s69.sub _ _ hb7
    have hb12 := s69.sub _ _ hb12
    have R_r := R_r.keep s69
    have hs := hs.trans s69
    have hn := Nat.le_trans hn hn2
    refine sq.c (v := .bool false) rfl rfl rfl rfl ?_
    refine sq.e (AWp.seq ?_)
    refine AWp.condF rfl rfl ?_
    refine AWp.exit ?_
    refine AWp.seq (AWp.rowV (l := _) pok ?_)
    have hfo := hf
    refine sq.k rfl (CallsF.fn rfl (by kernel_rfl) rfl rfl) (f60_spec zs (.inr rfl) hb7 R_r d_r_n (by first | omega | (simp only [List.length_append, List.length_cons, List.length_nil]; omega)) (34)) ?_
    rintro u73 h74 n75 ⟨a70, cp71, hb72, R_r, hB_, d_r_n⟩ s76 hn2 hf
    refine sq.w ?_
    have dn_n10 : ∀ c ∈ blkOf (.slice a70 (zs ++ [34]).length cp71), c ≠ n10 := fun c hc => (hB_ c hc).elim (fun q => d_r_n10 c q) (fun q e => by rw [e] at q; have := hfo _ q; rw [hb12] at this; cases this)
    have hb12 := s76 _ _ (fun hm => (List.mem_cons.1 hm).elim (Ne.symm e_n_n10) (fun q => d_r_n10 _ q rfl)) hb12
    have hs := SubBut.own2 (v := .slice a_r (zs).length cp_r) hs z_n B_r hf0 s76
    have B_r : ∀ c ∈ blkOf (.slice a70 (zs ++ [34]).length cp71), c ∈ [] ∨ n ≤ c := fun c hc => (hB_ c hc).elim (B_r c) (fun q => .inr (Nat.le_trans hn q))
    have hn := Nat.le_trans hn hn2
    have d_r_n10 := dn_n10
    refine sq.e (AWp.seq (AWp.rowV (l := _) pok ?_))
    refine sq.k rfl (CallsF.fn rfl (by kernel_rfl) rfl rfl) (f64_spec (zs ++ [34]) hb72 R_r (fun e => absurd e (by simp)) d_r_n (by first | omega | (simp only [List.length_append, List.length_cons, List.length_nil]; omega))) ?_
    rintro _ h77 n78 rfl s79 hn2 hf
    refine sq.w ?_
    have hb72 := s79 _ _ (fun hm => d_r_n _ hm rfl) hb72
    have hb12 := s79 _ _ (fun hm => d_r_n10 _ hm rfl) hb12
    have hs := hs.own B_r hf0 s79
    have hn := Nat.le_trans hn hn2
    refine sq.c (v := .string (strB (zs ++ [34]))) rfl rfl rfl rfl ?_
    refine sq.e ?_
    refine AWp.ret ?_
    refine ⟨rfl, [.string (strB (zs ++ [34]))], rfl, .string (strB (zs ++ [34])), rfl, hs, hn, ?_⟩
    have hd : s.data.toList.drop p = [] := List.drop_eq_nil_of_le (by omega)
    rw [hd, decs_nil, List.append_nil] at hr
    unfold quoteB
    rw [hr, hq]
theorem appStr : AppT Tryz.prog encStr 41 9 16 := ⟨by kernel_rfl, by kernel_rfl, by kernel_rfl, fun _ => rfl⟩
def partB (x : Lab) : List UInt8 := x.1.data.toList ++ [61] ++ quoteB x.2
def joinB (xs : List Lab) : List UInt8 := Lib.join (xs.map partB) [44]
def showB (ls : List Lab) : List UInt8 := [123] ++ joinB ls ++ [125]
def showS (ls : List Lab) : ByteArray := if mayB ls then strB (showB ls) else ⟨#[]⟩
def codeS (ls : List Lab) : Int := if mayB ls then 0 else 4
theorem show_yes {ls : List Lab} (h : mayB ls = true) : showS ls = strB (showB ls) ∧ codeS ls = 0 := by unfold showS codeS; rw [if_pos h, if_pos h]; exact ⟨rfl, rfl⟩
theorem show_no {ls : List Lab} (h : mayB ls = false) : showS ls = ⟨#[]⟩ ∧ codeS ls = 4 := by
  have : ¬ mayB ls = true := by rw [h]; decide
  unfold showS codeS
  rw [if_neg this, if_neg this]; exact ⟨rfl, rfl⟩
theorem part_eq (x : Lab) : (x.1 ++ (⟨#[61]⟩ : ByteArray)) ++ strB (quoteB x.2) = strB (partB x) := by
  apply ByteArray.ext
  apply Array.ext'
  simp [partB, ByteArray.data_append]
theorem join_len : ∀ (xs : List (List UInt8)) (k : Nat), (∀ x ∈ xs, x.length ≤ k) → (Lib.join xs [44]).length ≤ xs.length * (k + 1) := by
  intro xs k hx
  cases xs with
  | nil => exact Nat.zero_le _
  | cons x r =>
    rw [Lib.join_cons, List.length_append]
    have h0 := hx x List.mem_cons_self
    have : ∀ r : List (List UInt8), (∀ y ∈ r, y.length ≤ k) → (Lib.joinTail [44] r).length ≤ r.length * (k + 1) := by
      intro r
      induction r with
      | nil => intro _; exact Nat.zero_le _
      | cons y r ih =>
        intro h
        have h1 := h y List.mem_cons_self
        have h2 := ih fun z hz => h z (List.mem_cons_of_mem _ hz)
        have : Lib.joinTail [44] (y :: r) = [44] ++ y ++ Lib.joinTail [44] r := by simp [Lib.joinTail]
        rw [this, List.length_append, List.length_append, List.length_singleton, List.length_cons, Nat.add_mul]
        omega
    have h2 := this r fun y hy => hx y (List.mem_cons_of_mem _ hy)
    rw [List.length_cons, Nat.add_mul]
    omega
theorem decs_len : ∀ (k : Nat) (l : List UInt8), l.length = k → (decs l).length ≤ k := by
  intro k
  induction k using Nat.strongRecOn with
  | ind k ih =>
    intro l hl
    by_cases h : l = []
    · rw [h, decs_nil]; exact Nat.zero_le _
    · have hw := Lib.decodeL_width l
      have hp := List.length_pos_iff.2 h
      have := ih (l.drop (Lib.decodeL l).2).length (by rw [List.length_drop]; omega) _ rfl
      rw [decs_step l h, List.length_cons]
      rw [List.length_drop] at this
      omega
theorem decs_rune (k : Nat) (l : List UInt8) (hl : l.length = k) : ∀ d ∈ decs l, isR (d.1 : Nat) := by
  induction k using Nat.strongRecOn generalizing l with
  | ind k ih =>
    by_cases h : l = []
    · rw [h, decs_nil]; intro d hd; cases hd
    · have hw := Lib.decodeL_width l
      have hp := List.length_pos_iff.2 h
      have := ih (l.drop (Lib.decodeL l).2).length (by rw [List.length_drop]; omega) _ rfl
      rw [decs_step l h]
      intro d hd
      rcases List.mem_cons.1 hd with e | e
      · rw [e]; exact dec_isR l
      · exact this d e
theorem qV_len (ds : List (Nat × Nat)) (h : ∀ d ∈ ds, isR (d.1 : Nat)) : (qV ds).length ≤ 13 * ds.length := by
  induction ds with
  | nil => exact Nat.zero_le _
  | cons d r ih =>
    have h1 : (qR d.1).length ≤ 13 := qR_len (by have := h d List.mem_cons_self; unfold isR at this; omega)
    have h2 := ih fun x hx => h x (List.mem_cons_of_mem _ hx)
    have : qV (d :: r) = qR d.1 ++ qV r := rfl
    rw [this, List.length_append, List.length_cons]
    omega
theorem quote_len (v : ByteArray) : (quoteB v).length ≤ 13 * v.data.toList.length + 2 := by
  have h1 := qV_len _ (decs_rune _ v.data.toList rfl)
  have h2 := decs_len _ v.data.toList rfl
  unfold quoteB
  simp only [List.length_append, List.length_singleton]
  omega
theorem part_len {x : Lab} (h : x.1.data.toList.length < 5000 ∧ x.2.data.toList.length < 5000) : (partB x).length ≤ 70000 := by
  have := quote_len x.2
  unfold partB
  rw [List.length_append, List.length_append, List.length_singleton]
  omega
theorem joinB_len {ls : List Lab} (h : ∀ x ∈ ls, x.1.data.toList.length < 5000 ∧ x.2.data.toList.length < 5000) : (joinB ls).length ≤ ls.length * 70001 := by
  have := join_len (ls.map partB) 70000 fun y hy => by
    obtain ⟨x, hx, rfl⟩ := List.mem_map.1 hy
    exact part_len (h x hx)
  rw [List.length_map] at this
  exact this
theorem map_step {α β : Type} {f : α → β} {ls : List α} {i : Nat} {x : α} (h : ls[i]? = some x) : (ls.take (i + 1)).map f = (ls.take i).map f ++ [f x] := by
  rw [List.take_add_one, h]; simp
theorem sz_big {ls : List Lab} (hsz : ∀ x ∈ ls, x.1.data.toList.length < 5000 ∧ x.2.data.toList.length < 5000) : ∀ x ∈ ls, x.1.data.toList.length < 9223372036854775808 ∧ x.2.data.toList.length < 9223372036854775808 := fun x hx => by
  have := hsz x hx; omega
theorem show_eq (ls : List Lab) : ((⟨#[123]⟩ : ByteArray) ++ strB (joinB ls)) ++ (⟨#[125]⟩ : ByteArray) = strB (showB ls) := by
  apply ByteArray.ext
  apply Array.ext'
  simp [showB, ByteArray.data_append]
theorem f39_lab {h : Heap} {n : Nat} {a : Option Addr} {cp : Nat} (ls : List Lab) (ps : List ByteArray) (hpm : ps.map (fun s => s.data.toList) = ls.map partB) (hpl : ps.length = ls.length) (q : IsRow encStr h (.slice a ps.length cp) ps) (hlen : ls.length ≤ 500) (hjl : (joinB ls).length ≤ ls.length * 70001) :
    Tells Tryz.prog 39 [.slice a ps.length cp, .string ⟨#[44]⟩] h n (.string (strB (joinB ls))) := by
  have hj := f39_spec (h := h) (n := n) ps ⟨#[44]⟩ q (by omega) (by rw [hpm]; exact Nat.le_trans hjl (by omega))
  rw [hpm] at hj
  exact hj
theorem f15_spec {h : Heap} {n : Nat} {a : Option Addr} {cp : Nat} (ls : List Lab) (hl : IsRow encLab h (.slice a ls.length cp) ls) (hlen : ls.length ≤ 500) (hsz : ∀ x ∈ ls, x.1.data.toList.length < 5000 ∧ x.2.data.toList.length < 5000) (hld : Laid0 h) :
    Tells Tryz.prog 15 [.slice a (ls.length) cp] h n (.tuple #[.string (showS ls), .int .i64 (codeS ls)]) := by
  refine Makes.tells (Makes.free fun hf => ?_)
  have hs : SubBut h h ([]) := .refl _ _
  have hn : n ≤ n := Nat.le_refl _
  have hf0 := hf
  refine Makes.of_bodyV (args := [.slice a (ls.length) cp]) (vs := [.slice a (ls.length) cp, undef, undef, undef, undef, undef, undef, undef, undef, undef, undef, undef, undef, undef, undef, undef, undef, undef, undef, undef, undef, undef, undef, undef, undef, undef, undef, undef, undef, undef, undef]) Tryz.func15 rfl rfl ?_
  refine AWp.seq (AWp.rowV (l := _) pok ?_)
  refine sq.c (v := .string (⟨#[]⟩)) rfl rfl rfl rfl ?_
  refine sq.c (v := .int .i64 (0)) rfl rfl rfl rfl ?_
  refine sq.e (AWp.seq (AWp.seq (AWp.rowV (l := _) pok ?_)))
  refine sq.c (v := .slice a (ls.length) cp) rfl rfl rfl rfl ?_
  refine sq.t (v := .bool (mayB ls)) rfl (CallsF.fn rfl (by kernel_rfl) rfl rfl) (fun hf => f24_spec ls (hl.keep hs) (by omega) (sz_big hsz) (hld.keep hs)) hf rfl ?_
  intro n1 hn2 hf
  have hn := Nat.le_trans hn hn2
  rcases Bool.eq_false_or_eq_true (mayB ls) with c_m | c_m
  · rw [c_m]
    refine sq.c (v := .bool false) rfl rfl rfl rfl ?_
    refine sq.e ?_
    refine AWp.condF rfl rfl ?_
    refine AWp.skip (AWp.seq (AWp.rowV (l := _) pok ?_))
    refine sq.c (v := .slice none (0) (0)) rfl rfl rfl rfl ?_
    refine sq.e (AWp.seq (AWp.seq (AWp.rowV (l := _) pok ?_)))
    refine sq.c (v := .slice a (ls.length) cp) rfl rfl rfl rfl ?_
    refine sq.c (v := .int .i64 (((ls.length : Nat) : Int))) rfl rfl (by kernel_rfl) rfl ?_
    refine sq.c (v := .int .i64 (0)) rfl rfl rfl rfl ?_
    refine sq.e (AWp.block ?_)
    refine AWp.loopV (fun d vs h3 n4 => ∃ (i : Int) (ps : List ByteArray) (a_o : Option Addr) (cp_o : Nat), d = ((ls.length : Nat) - i + 1).toNat ∧ SubBut h h3 ([]) ∧ n ≤ n4 ∧ Free h3 n4 ∧ OwnRow encStr 9 h h3 (.slice a_o (ps).length cp_o) (ps) ∧ (0 ≤ i) ∧ (i ≤ (ls.length : Nat)) ∧ (ps.length = i.toNat) ∧ (ps = (ls.take i.toNat).map fun x => strB (partB x)) ∧ ∃ y2 : Nat → Value, vs = [.slice a (ls.length) cp, undef, .string (⟨#[]⟩), .int .i64 (0), .slice a_o (ps.length) cp_o, undef, (y2 6), .slice a (ls.length) cp, .bool true, .bool false, .slice a (ls.length) cp, .int .i64 (((ls.length : Nat) : Int)), .int .i64 (i), (y2 13), (y2 14), (y2 15), (y2 16), (y2 17), (y2 18), (y2 19), (y2 20), (y2 21), (y2 22), (y2 23), (y2 24), (y2 25), (y2 26), undef, undef, undef, undef]) (((ls.length : Nat) - (0 : Int) + 1).toNat) ⟨0, [], none, 0, rfl, hs, hn, hf, OwnRow.nil, (by omega), (by omega), (rfl), (rfl), getV [undef, undef, undef, undef, undef, undef, undef, undef, undef, undef, undef, undef, undef, undef, undef, undef, undef, undef, undef, undef, undef, undef, undef, undef, undef, undef, undef], rfl⟩ ?_
    rintro d vs h3 n4 ⟨i, ps, a_o, cp_o, rfl, hs, hn, hf, R_o, hi0, hi1, hpl, hq, y2, rfl⟩
    refine AWp.seq (AWp.rowV (l := _) pok ?_)
    refine sq.c (v := .bool (decide (i < (((ls.length : Nat) : Int))))) rfl rfl rfl rfl ?_
    refine sq.e (AWp.seq ?_)
    by_cases c5_0 : i < (((ls.length : Nat) : Int))
    · rw [decide_eq_true c5_0]
      refine AWp.condT rfl rfl ?_
      refine AWp.skip (AWp.seq (AWp.block (AWp.seq (AWp.rowV (l := _) pok ?_))))
      have i11 : (0 : Int) ≤ (i : Int) := by omega
      obtain ⟨x12, hx_x12⟩ : ∃ x, (ls)[((i : Int)).toNat]? = some x := ⟨_, List.getElem?_eq_getElem (by omega)⟩
      have g_x12 := hsz x12 (List.mem_of_getElem? hx_x12)
      obtain ⟨b5, o6, cs_b5, ow_b5, ci_b5, ie10, hb7, hc8, hr9⟩ := IsRow.at (P := Tryz.prog) (t := 22) (e := 40) (k := .i64) (by kernel_rfl) (by kernel_rfl) (hl.keep hs) i11 hx_x12
      refine sq.c (v := .pointer (some ⟨b5, o6, none⟩)) rfl rfl ie10 rfl ?_
      refine sq.c (v := .agg #[.string (x12.1), .string (x12.2)]) rfl rfl (ldR (P := Tryz.prog) (t := 40) (k := 2) (xs := [.string (x12.1), .string (x12.2)]) (by kernel_rfl) (by kernel_rfl) hr9) rfl ?_
      have e_b5_n4 : b5 ≠ n4 := hf.ne hb7
      have d_o_n4 : ∀ c ∈ blkOf (.slice a_o (ps).length cp_o), c ≠ n4 := fun c hc e => R_o.ne' (hf _ (Nat.le_refl _)) c hc (List.mem_singleton.2 e)
      have z_n4 : h.get n4 = none := hf0 _ hn
      refine sq.op rfl rfl (Does.alloc (cs := [.string (⟨#[]⟩), .string (⟨#[]⟩)]) hf (z := .agg #[.string (⟨#[]⟩), .string (⟨#[]⟩)]) (by kernel_rfl) rfl) ?_
      rintro _ h14 n15 ⟨rfl, hb13⟩ s16 hn2 hf
      refine sq.w ?_
      have R_o := R_o.keep s16
      have hs := hs.trans s16
      have hn := Nat.le_trans hn hn2
      refine sq.op rfl rfl (Does.store (k := 2) (xs := [.string (x12.1), .string (x12.2)]) (cs' := [.string (x12.1), .string (x12.2)]) hf (by kernel_rfl) rfl rfl rfl hb13 rfl rfl (Nat.le_of_ble_eq_true rfl) rfl) ?_
      rintro _ h18 n19 ⟨rfl, hb17⟩ s20 hn2 hf
      refine sq.w0 ?_
      have R_o := R_o.but s20 (fun c hc hm => d_o_n4 c hc (List.mem_singleton.1 hm))
      have hs := hs.fresh z_n4 s20
      have hn := Nat.le_trans hn hn2
      refine sq.e ?_
      refine AWp.anyK pok [0, 1, 2, 3, 4, 5, 6, 7, 8, 9, 10] (by kernel_rfl) (by kernel_rfl) rfl (fun x fr fr' h n hd _ q => ⟨hd ▸ q.1, q.2⟩) ?_
      refine dk.c (v := .slice a_o (ps.length) cp_o) rfl (by kernel_rfl) rfl rfl rfl rfl ?_
      refine dk.c (v := .pointer (some ⟨n4, 0, none⟩)) rfl (by kernel_rfl) rfl rfl (by kernel_rfl) rfl ?_
      refine dk.gB (v := .string (x12.1)) n4 rfl (by kernel_rfl) rfl rfl (fun _ q_ => (ld1 (P := Tryz.prog) (t := 9) (p := 0) (v := .string (x12.1)) (by kernel_rfl) (by kernel_rfl) (q_ _ hb17) rfl)) rfl ?_
      refine dk.c (v := .string (x12.1 ++ (⟨#[61]⟩ : ByteArray))) rfl (by kernel_rfl) rfl rfl (add_str (a := x12.1) (b := (⟨#[61]⟩ : ByteArray)) (by show x12.1.data.toList.length + 1 < _; omega)) rfl ?_
      refine dk.c (v := .pointer (some ⟨n4, 1, none⟩)) rfl (by kernel_rfl) rfl rfl (by kernel_rfl) rfl ?_
      refine dk.gB (v := .string (x12.2)) n4 rfl (by kernel_rfl) rfl rfl (fun _ q_ => (ld1 (P := Tryz.prog) (t := 9) (p := 1) (v := .string (x12.2)) (by kernel_rfl) (by kernel_rfl) (q_ _ hb17) rfl)) rfl ?_
      refine dk.t (v := .string (strB (quoteB x12.2))) rfl (by kernel_rfl) rfl (CallsF.fn rfl (by kernel_rfl) rfl rfl) (fun hf => f38_spec x12.2 (by omega) (hld.keep hs)) hf rfl ?_
      intro n21 hn2 hf
      have hn := Nat.le_trans hn hn2
      refine dk.c (v := .string ((x12.1 ++ (⟨#[61]⟩ : ByteArray)) ++ strB (quoteB x12.2))) rfl (by kernel_rfl) rfl rfl (add_str (a := x12.1 ++ (⟨#[61]⟩ : ByteArray)) (b := strB (quoteB x12.2)) (by rw [add_len, strB_len (quoteB x12.2)]; show x12.1.data.toList.length + 1 + _ < _; have := quote_len x12.2; omega)) rfl ?_
      have e_n4_n21 : n4 ≠ n21 := hf.ne hb17
      have d_o_n21 : ∀ c ∈ blkOf (.slice a_o (ps).length cp_o), c ≠ n21 := fun c hc e => R_o.ne' (hf _ (Nat.le_refl _)) c hc (List.mem_singleton.2 e)
      have z_n21 : h.get n21 = none := hf0 _ hn
      refine dk.op rfl (by kernel_rfl) rfl rfl (Does.build (e := 9) (cs := [.string ((x12.1 ++ (⟨#[61]⟩ : ByteArray)) ++ strB (quoteB x12.2))]) hf (fun _ _ => by kernel_rfl)) (keepC (by simp) (keepC (by simp) keepN)) ?_
      rintro _ h23 n24 ⟨rfl, hb22⟩ s25 hn2 hf
      refine dk.w ?_
      have R_o := R_o.keep s25
      have hb17 := s25.sub _ _ hb17
      have hs := hs.trans s25
      have hn := Nat.le_trans hn hn2
      have hz0 : h.get n24 = none := hf0 _ hn
      have hfo := hf
      refine dk.op rfl (by kernel_rfl) rfl rfl (Does.append (E := encStr) (xs := ps) (ys := [(x12.1 ++ (⟨#[61]⟩ : ByteArray)) ++ strB (quoteB x12.2)]) appStr ⟨.slice 9, by kernel_rfl, fun _ q => by cases q⟩ hf hs R_o (IsRow.of (E := encStr) (xs := [(x12.1 ++ (⟨#[61]⟩ : ByteArray)) ++ strB (quoteB x12.2)]) (cap := 1) hb22 (Nat.le_refl _)) rfl rfl (by rw [hpl, List.length_singleton]; omega) (by rw [hpl, List.length_singleton]; omega) hz0) (keepC (fun hm => d_o_n4 _ hm rfl) (keepC (fun hm => d_o_n4 _ hm rfl) keepN)) ?_
      rintro v29 h26 n27 ⟨R_o, hs, hB30⟩ s28 hn2 hf
      refine dk.w ?_
      have dn_o_n4 : ∀ c ∈ blkOf v29, c ≠ n4 := fun c hc => (hB30 c hc).elim (fun q => d_o_n4 c q) (fun q => by rw [q]; exact (hfo.ne hb17).symm)
      have dn_o_n21 : ∀ c ∈ blkOf v29, c ≠ n21 := fun c hc => (hB30 c hc).elim (fun q => d_o_n21 c q) (fun q => by rw [q]; exact (hfo.ne hb22).symm)
      have hb17 := s28 _ _ (fun hm => d_o_n4 _ hm rfl) hb17
      have hb22 := s28 _ _ (fun hm => d_o_n21 _ hm rfl) hb22
      have d_o_n4 := dn_o_n4
      have d_o_n21 := dn_o_n21
      obtain ⟨a31, cp32, rfl⟩ := R_o.slice
      have hn := Nat.le_trans hn hn2
      refine dk.c (v := .slice a31 (ps ++ [(x12.1 ++ (⟨#[61]⟩ : ByteArray)) ++ strB (quoteB x12.2)]).length cp32) rfl (by kernel_rfl) rfl rfl rfl rfl ?_
      refine dk.e (AWp.rowV (l := _) pok ?_)
      refine sq.c (v := .int .i64 (i + 1)) rfl rfl (okI (wrap_i64 (by omega) (by omega))) rfl ?_
      refine sq.c (v := .int .i64 (i + 1)) rfl rfl rfl rfl ?_
      refine sq.e ?_
      refine ⟨_, _, rfl, by omega, i + 1, ps ++ [(x12.1 ++ (⟨#[61]⟩ : ByteArray)) ++ strB (quoteB x12.2)], a31, cp32, rfl, hs, hn, hf, R_o, (by omega), (by omega), (by rw [List.length_append, List.length_singleton]; omega), (by rw [hq, part_eq, show (i + 1).toNat = i.toNat + 1 by omega, map_step hx_x12]), getV [undef, undef, undef, undef, undef, undef, .pointer (some ⟨n4, 0, none⟩), undef, undef, undef, undef, undef, undef, .bool true, .pointer (some ⟨b5, o6, none⟩), .agg #[.string (x12.1), .string (x12.2)], .slice a_o (ps.length) cp_o, .pointer (some ⟨n4, 0, none⟩), .string (x12.1), .string (x12.1 ++ (⟨#[61]⟩ : ByteArray)), .pointer (some ⟨n4, 1, none⟩), .string (x12.2), .string (strB (quoteB x12.2)), .string ((x12.1 ++ (⟨#[61]⟩ : ByteArray)) ++ strB (quoteB x12.2)), .slice (some ⟨n21, 0, none⟩) (1) (1), .slice a31 (ps ++ [(x12.1 ++ (⟨#[61]⟩ : ByteArray)) ++ strB (quoteB x12.2)]).length cp32, .int .i64 (i + 1)], rfl⟩
    · rw [decide_eq_false c5_0]
      refine AWp.condF rfl rfl ?_
      refine AWp.exit ?_
      refine AWp.seq (AWp.rowV (l := _) pok ?_)
      refine sq.c (v := .slice a_o (ps.length) cp_o) rfl rfl rfl rfl ?_
      have hpm : ps.map (fun s => s.data.toList) = ls.map partB := by rw [hq, show i.toNat = ls.length by omega, List.take_length, List.map_map]; rfl
      have hpl : ps.length = ls.length := by have := congrArg List.length hpm; rw [List.length_map, List.length_map] at this; exact this
      have hjl := joinB_len hsz
      have hjm := Nat.mul_le_mul_right 70001 hlen
      refine sq.t (v := .string (strB (joinB ls))) rfl (CallsF.fn rfl (by kernel_rfl) rfl rfl) (fun hf => f39_lab ls ps hpm hpl R_o.is hlen hjl) hf rfl ?_
      intro n33 hn2 hf
      have hn := Nat.le_trans hn hn2
      refine sq.c (v := .string ((⟨#[123]⟩ : ByteArray) ++ strB (joinB ls))) rfl rfl (add_str (a := (⟨#[123]⟩ : ByteArray)) (b := strB (joinB ls)) (by rw [strB_len (joinB ls)]; show 1 + _ < _; omega)) rfl ?_
      refine sq.c (v := .string (((⟨#[123]⟩ : ByteArray) ++ strB (joinB ls)) ++ (⟨#[125]⟩ : ByteArray))) rfl rfl (add_str (a := (⟨#[123]⟩ : ByteArray) ++ strB (joinB ls)) (b := (⟨#[125]⟩ : ByteArray)) (by rw [add_len, strB_len (joinB ls)]; show 1 + _ + 1 < _; omega)) rfl ?_
      refine sq.c (v := .string (((⟨#[123]⟩ : ByteArray) ++ strB (joinB ls)) ++ (⟨#[125]⟩ : ByteArray))) rfl rfl rfl rfl ?_
      refine sq.c (v := .int .i64 (0)) rfl rfl rfl rfl ?_
      refine sq.e ?_
      refine AWp.ret ?_
      refine ⟨rfl, [.string (((⟨#[123]⟩ : ByteArray) ++ strB (joinB ls)) ++ (⟨#[125]⟩ : ByteArray)), .int .i64 (0)], rfl, .tuple #[.string (((⟨#[123]⟩ : ByteArray) ++ strB (joinB ls)) ++ (⟨#[125]⟩ : ByteArray)), .int .i64 (0)], rfl, hs, hn, ?_⟩
      rw [(show_yes c_m).1, (show_yes c_m).2]
      rw [show_eq]
  · rw [c_m]
    refine sq.c (v := .bool true) rfl rfl rfl rfl ?_
    refine sq.e ?_
    refine AWp.condT rfl rfl ?_
    refine AWp.seq (AWp.rowV (l := _) pok ?_)
    refine sq.c (v := .string (⟨#[]⟩)) rfl rfl rfl rfl ?_
    refine sq.c (v := .int .i64 (4)) rfl rfl rfl rfl ?_
    refine sq.e ?_
    refine AWp.ret ?_
    refine ⟨rfl, [.string (⟨#[]⟩), .int .i64 (4)], rfl, .tuple #[.string (⟨#[]⟩), .int .i64 (4)], rfl, hs, hn, ?_⟩
    rw [(show_no c_m).1, (show_no c_m).2]
end Go.Proofs.YtkpjfibpaojelaaGreatDoor
namespace Go.Proofs.YtkpjfibpaojelaaGreatDoor
open Go Go.Abs
set_option linter.unusedVariables false
set_option maxRecDepth 100000
set_option maxHeartbeats 4000000
theorem may_get' {ls : List Lab} {i : Nat} {x : Lab} (h : mayB ls = true) (hx : ls[i]? = some x) : mayNameB x.1 = true ∧ mayValueB x.2 = true := by
  rcases Bool.eq_false_or_eq_true (mayNameB x.1) with h1 | h1
  · rcases Bool.eq_false_or_eq_true (mayValueB x.2) with h2 | h2
    · exact ⟨h1, h2⟩
    · rw [may_bad hx (.inr h2)] at h; cases h
  · rw [may_bad hx (.inl h1)] at h; cases h
theorem dec_ascii {b : UInt8} {r : List UInt8} (h : b.toNat < 128) : Lib.decodeL (b :: r) = (b.toNat, 1) := by
  rw [decodeL_N, show ((b :: r).getD 0 0) = b from rfl, dec1 h]
theorem lo8_small {c : Nat} (h : c < 256) : (lo8 (c : Int)).toNat = c := by
  have := lo8_int (x := (c : Int)) (by omega) (by omega)
  omega
theorem enc_small {c : Nat} (h : c < 128) : encR (c : Nat) = [lo8 (c : Int)] := enc1 (by omega) (by omega)
theorem hexCh_hex {n : Nat} (h : n < 16) : isHexB (hexCh n) = true ∧ hexD (hexCh n) = n := by
  have key : ∀ n : Fin 16, isHexB (hexCh n.val) = true ∧ hexD (hexCh n.val) = n.val := by decide +kernel
  exact key ⟨n, h⟩
theorem hexL_hex : ∀ (k n : Nat), n < 16 ^ (k + 1) → (hexL n).all isHexB = true ∧ hexV (hexL n) = n := by
  intro k
  induction k with
  | zero =>
    intro n h
    rw [hexL_lt (by omega)]
    have := hexCh_hex (n := n) (by omega)
    refine ⟨by rw [List.all_cons, this.1]; rfl, ?_⟩
    show 0 * 16 + hexD (hexCh n) = n
    omega
  | succ k ih =>
    intro n h
    by_cases h1 : n < 16
    · rw [hexL_lt h1]
      have := hexCh_hex (n := n) h1
      refine ⟨by rw [List.all_cons, this.1]; rfl, ?_⟩
      show 0 * 16 + hexD (hexCh n) = n
      omega
    · have h2 := ih (n / 16) (by rw [Nat.pow_succ] at h; exact Nat.div_lt_of_lt_mul (by omega))
      have h3 := hexCh_hex (n := n % 16) (by omega)
      rw [hexL_ge (by omega)]
      refine ⟨by rw [List.all_append, h2.1, List.all_cons, h3.1]; rfl, ?_⟩
      rw [hexV_snoc, h2.2, h3.2]
      omega
theorem hex_not {b : UInt8} (h : isHexB b = true) : (b != 125) = true := by
  have := hex_rng h
  rw [bne_iff_ne]
  intro e
  subst e
  revert this; decide
theorem cutA_app {l r : List UInt8} {c : UInt8} (h : ∀ b ∈ l, (b != c) = true) : cutA (l ++ c :: r) c = l ∧ cutT (l ++ c :: r) c = r ∧ (l ++ c :: r).contains c = true := by
  refine ⟨?_, ?_, by simp⟩
  · unfold cutA
    rw [List.takeWhile_append_of_pos h]
    simp
  · unfold cutT
    rw [List.dropWhile_append_of_pos h]
    simp
theorem num_show {c : Nat} {r : List UInt8} (h : isR (c : Int)) : numP (123 :: (hexL c ++ 125 :: r)) = some (c, r) := by
  unfold isR at h
  obtain ⟨h1, h2⟩ := hexL_hex 5 c (by omega)
  have h3 := hexL_len 5 c (by omega)
  have hn : ∀ b ∈ hexL c, (b != 125) = true := fun b hb => hex_not (List.all_eq_true.1 h1 b hb)
  obtain ⟨e1, e2, e3⟩ := cutA_app (r := r) hn
  have hd : (123 :: (hexL c ++ 125 :: r)).drop 1 = hexL c ++ 125 :: r := rfl
  have hq : numQ (123 :: (hexL c ++ 125 :: r)) := by
    refine ⟨?_, ?_, ?_, ?_, ?_, ?_⟩
    · unfold Lib.hasPrefix; simp [List.isPrefixOf]
    · rw [hd]; exact e3
    · rw [hd, e1]; intro e; rw [e] at h3; simp at h3
    · rw [hd, e1]; exact h3.2
    · rw [hd, e1]; exact h1
    · rw [hd, e1, h2]
      unfold validN Lib.validRune
      simp only [decide_eq_true_eq]
      omega
  rw [num_yes hq, hd, e1, e2, h2]
theorem bt_head (b : UInt8) (r : List UInt8) : bt (strB (b :: r)) 0 = b.toNat := rfl
theorem val_qR {c f : Nat} {rest out : List UInt8} (h : isR (c : Int)) (h32 : 32 ≤ c) : valF (f + 1) (qR c ++ rest) out = valF f rest (out ++ encR (c : Nat)) := by
  by_cases h3 : 126 < c
  · have e : qR c ++ rest = 92 :: 117 :: 123 :: (hexL c ++ 125 :: rest) := by
      unfold qR; rw [if_neg (by omega), if_pos h3]; simp
    have hd := dec_ascii (b := 92) (r := 117 :: 123 :: (hexL c ++ 125 :: rest)) (by decide)
    rw [e, valF, if_neg (by rw [hd]; simp), hd]
    show (if (92 : Nat) = 34 then _ else if (92 : Nat) = 92 then _ else _) = _
    rw [if_neg (by decide), if_pos rfl]
    have he : escP (117 :: 123 :: (hexL c ++ 125 :: rest)) = some (c, rest) := by
      unfold escP
      rw [if_neg (by simp), if_pos (by rw [bt_head]; rfl)]
      exact num_show h
    rw [show (92 :: 117 :: 123 :: (hexL c ++ 125 :: rest)).drop 1 = 117 :: 123 :: (hexL c ++ 125 :: rest) from rfl, he]
  · by_cases h1 : c = 34 ∨ c = 92
    · have e : qR c ++ rest = 92 :: lo8 (c : Int) :: rest := by
        rw [qR_esc h1, enc_small (by omega)]; rfl
      have hd := dec_ascii (b := 92) (r := lo8 (c : Int) :: rest) (by decide)
      rw [e, valF, if_neg (by rw [hd]; simp), hd]
      show (if (92 : Nat) = 34 then _ else if (92 : Nat) = 92 then _ else _) = _
      rw [if_neg (by decide), if_pos rfl]
      have hl := lo8_small (c := c) (by omega)
      have hb : bt (strB (lo8 (c : Int) :: rest)) 0 = (c : Int) := by rw [bt_head, hl]
      have he : escP (lo8 (c : Int) :: rest) = some (c, rest) := by
        unfold escP
        rw [if_neg (by simp), if_neg (by rw [hb]; omega), if_pos (by rw [hb]; omega), hb]
        simp
      rw [show (92 :: lo8 (c : Int) :: rest).drop 1 = lo8 (c : Int) :: rest from rfl, he]
    · have e : qR c ++ rest = lo8 (c : Int) :: rest := by
        rw [qR_plain (by omega) (by omega) h3, enc_small (by omega)]; rfl
      have hl := lo8_small (c := c) (by omega)
      have hd := dec_ascii (b := lo8 (c : Int)) (r := rest) (by omega)
      rw [hl] at hd
      rw [e, valF, if_neg (by rw [hd]; simp; omega), hd]
      show (if c = 34 then _ else if c = 92 then _ else _) = _
      rw [if_neg (by omega), if_neg (by omega)]
      rfl
theorem qV_cons (d : Nat × Nat) (r : List (Nat × Nat)) : qV (d :: r) = qR d.1 ++ qV r := rfl
theorem qR_pos {c : Nat} (h : isR (c : Int)) : 1 ≤ (qR c).length := by
  have := enc_len (c : Int)
  unfold qR
  rw [List.length_append]
  split <;> split <;> simp only [List.length_append, List.length_cons, List.length_nil] <;> omega
theorem val_qV : ∀ (ds : List (Nat × Nat)) (f : Nat) (rest out : List UInt8), (∀ d ∈ ds, isR (d.1 : Nat) ∧ 32 ≤ d.1) → (qV ds).length < f → valF f (qV ds ++ 34 :: rest) out = some (out ++ ds.flatMap (fun d => encR (d.1 : Nat)), rest) := by
  intro ds
  induction ds with
  | nil =>
    intro f rest out _ hf
    obtain ⟨g, rfl⟩ : ∃ g, f = g + 1 := ⟨f - 1, by omega⟩
    have hd := dec_ascii (b := 34) (r := rest) (by decide)
    show valF (g + 1) (34 :: rest) out = _
    rw [valF, if_neg (by rw [hd]; simp), hd]
    show (if (34 : Nat) = 34 then _ else _) = _
    rw [if_pos rfl]
    simp
  | cons d r ih =>
    intro f rest out hd hf
    obtain ⟨h1, h2⟩ := hd d List.mem_cons_self
    have hp := qR_pos h1
    rw [qV_cons, List.length_append] at hf
    obtain ⟨g, rfl⟩ : ∃ g, f = g + 1 := ⟨f - 1, by omega⟩
    rw [qV_cons, List.append_assoc, val_qR h1 h2, ih g rest _ (fun x hx => hd x (List.mem_cons_of_mem _ hx)) (by omega)]
    simp
theorem decs_enc : ∀ l : List UInt8, (decs l).all goodD = true → (decs l).flatMap (fun d => encR (d.1 : Nat)) = l := by
  refine decs_ok _ rfl ?_
  intro l c w hne hd hb hs _ ih
  rw [hs, List.flatMap_cons, ih]
  have hen := Lib.encode_decode l hne (fun q => hb (by rw [hd] at q; exact Prod.ext q.1 q.2))
  rw [hd] at hen
  show Lib.encodeRune (c : Int) ++ _ = l
  rw [hen]
  exact List.take_append_drop w l
theorem okD_32 {d : Nat × Nat} (h : okD d = true) : 32 ≤ d.1 := by
  unfold okD at h
  simp only [Bool.and_eq_true, decide_eq_true_eq] at h
  exact h.1.2
theorem val_show {v : ByteArray} {rest : List UInt8} (h : mayValueB v = true) : valP (qV (decs v.data.toList) ++ 34 :: rest) = some (v.data.toList, rest) := by
  have ha := (mayV h).1
  have hr := decs_rune _ v.data.toList rfl
  unfold valP
  rw [val_qV _ _ _ _ (fun d hd => ⟨hr d hd, okD_32 (List.all_eq_true.1 ha d hd)⟩) (by rw [List.length_append]; omega), decs_enc _ (all_good ha)]
  rfl
theorem bt_at (s : ByteArray) {i : Nat} (hi : i < s.data.toList.length) : ∃ b, s.data.toList[i]? = some b ∧ bt s (i : Nat) = b.toNat := by
  refine ⟨s.data.toList[i], List.getElem?_eq_getElem hi, ?_⟩
  have := bN_bt s i
  unfold bN at this
  rw [← this, List.getD_eq_getElem?_getD, List.getElem?_eq_getElem hi]
  rfl
theorem name_byte {s : ByteArray} (h : mayNameB s = true) : ∀ b ∈ s.data.toList, 48 ≤ b.toNat ∧ b.toNat ≤ 122 ∧ b ≠ 61 := by
  unfold mayNameB at h
  rw [Bool.and_eq_true, List.all_eq_true] at h
  intro b hb
  obtain ⟨i, hi, he⟩ := List.getElem_of_mem hb
  have h1 := h.2 i (List.mem_range.2 hi)
  have hbt : bt s (i : Nat) = b.toNat := by
    obtain ⟨c, e1, e2⟩ := bt_at s hi
    rw [e2, ← he]
    rw [List.getElem?_eq_getElem hi] at e1
    cases e1; rfl
  rw [hbt] at h1
  simp only [letterB, Bool.or_eq_true, Bool.and_eq_true, decide_eq_true_eq] at h1
  refine ⟨by omega, by omega, fun e => ?_⟩
  subst e
  have : ((61 : UInt8).toNat : Int) = 61 := rfl
  omega
theorem lab_show {x : Lab} {rest : List UInt8} (h1 : mayNameB x.1 = true) (h2 : mayValueB x.2 = true) : labP (partB x ++ rest) = some (x, rest) := by
  have hb := name_byte h1
  have hn : ∀ b ∈ x.1.data.toList, (b != 61) = true := fun b q => bne_iff_ne.2 (hb b q).2.2
  have e : partB x ++ rest = x.1.data.toList ++ 61 :: (34 :: (qV (decs x.2.data.toList) ++ 34 :: rest)) := by
    simp [partB, quoteB]
  obtain ⟨e1, e2, e3⟩ := cutA_app (r := 34 :: (qV (decs x.2.data.toList) ++ 34 :: rest)) hn
  rw [e]
  have hq : labQ (x.1.data.toList ++ 61 :: (34 :: (qV (decs x.2.data.toList) ++ 34 :: rest))) := by
    refine ⟨e3, ?_⟩
    rw [e1]
    unfold Lib.hasPrefix
    rw [List.isPrefixOf_iff_prefix]
    exact ⟨qV (decs x.2.data.toList) ++ 34 :: rest, by simp⟩
  rw [lab_yes hq (v := x.2.data.toList) (r := rest) ?_, e1]
  rw [e1, show x.1.data.toList ++ 61 :: (34 :: (qV (decs x.2.data.toList) ++ 34 :: rest)) = (x.1.data.toList ++ [61, 34]) ++ (qV (decs x.2.data.toList) ++ 34 :: rest) by simp, List.drop_left]
  exact val_show h2
theorem more_show : ∀ (xs acc : List Lab) (f : Nat), (∀ x ∈ xs, mayNameB x.1 = true ∧ mayValueB x.2 = true) → xs.length < f → moreF f (Lib.joinTail [44] (xs.map partB) ++ [125]) acc = some (acc ++ xs, [125]) := by
  intro xs
  induction xs with
  | nil =>
    intro acc f _ hf
    obtain ⟨g, rfl⟩ : ∃ g, f = g + 1 := ⟨f - 1, by omega⟩
    rw [show Lib.joinTail [44] (([] : List Lab).map partB) ++ [125] = [125] from rfl, more_no rfl, List.append_nil]
  | cons x r ih =>
    intro acc f hx hf
    rw [List.length_cons] at hf
    obtain ⟨g, rfl⟩ : ∃ g, f = g + 1 := ⟨f - 1, by omega⟩
    have e : Lib.joinTail [44] ((x :: r).map partB) ++ [125] = 44 :: (partB x ++ (Lib.joinTail [44] (r.map partB) ++ [125])) := by simp [Lib.joinTail]
    have h := hx x List.mem_cons_self
    rw [e, more_yes (x := x) (r' := Lib.joinTail [44] (r.map partB) ++ [125]) ?_ ?_, ih _ g (fun y hy => hx y (List.mem_cons_of_mem _ hy)) (by omega)]
    · simp
    · unfold Lib.hasPrefix; simp [List.isPrefixOf]
    · exact lab_show h.1 h.2
theorem may_mem {ls : List Lab} (h : mayB ls = true) : ∀ x ∈ ls, mayNameB x.1 = true ∧ mayValueB x.2 = true := by
  intro x hx
  obtain ⟨i, hi, he⟩ := List.getElem_of_mem hx
  exact may_get' h (List.getElem?_eq_some_iff.2 ⟨hi, he⟩)
theorem par_show {ls : List Lab} (h : mayB ls = true) : parP (showB ls) = some ls := by
  have ha := may_mem h
  cases ls with
  | nil => unfold mayB at h; simp at h
  | cons x r =>
    have hx := ha x List.mem_cons_self
    have e : showB (x :: r) = 123 :: (partB x ++ (Lib.joinTail [44] (r.map partB) ++ [125])) := by
      unfold showB joinB
      rw [List.map_cons, Lib.join_cons]; simp
    have hp : Lib.hasPrefix (showB (x :: r)) [123] = true := by rw [e]; unfold Lib.hasPrefix; simp [List.isPrefixOf]
    rw [par_2 hp (x := x) (r := Lib.joinTail [44] (r.map partB) ++ [125]) (by rw [e]; exact lab_show hx.1 hx.2)]
    have hlen : ∀ ys : List Lab, ys.length ≤ (Lib.joinTail [44] (ys.map partB)).length := by
      intro ys
      rw [Lib.joinTail_length, List.length_map]
      simp
    have := hlen r
    rw [more_show r [x] _ (fun y hy => ha y (List.mem_cons_of_mem _ hy)) (by rw [e, List.length_cons, List.length_append, List.length_append]; omega)]
    show (if endQ ([x] ++ r) [125] then some ([x] ++ r) else none) = some (x :: r)
    exact if_pos ⟨rfl, rfl, h⟩
end Go.Proofs.YtkpjfibpaojelaaGreatDoor
namespace Go.Proofs.YtkpjfibpaojelaaGreatDoor
open Go Go.Abs
set_option linter.unusedVariables false
set_option maxRecDepth 100000
set_option maxHeartbeats 4000000
theorem show_short {ls : List Lab} (h : mayB ls = true) : (showB ls).length ≤ 16 * 4000 := by
  have ha := may_mem h
  have hn : ls.length ≤ 16 := by
    unfold mayB at h
    rw [Bool.and_eq_true, decide_eq_true_eq] at h
    exact h.1.2
  have hj := join_len (ls.map partB) 3900 fun y hy => by
    obtain ⟨x, hx, rfl⟩ := List.mem_map.1 hy
    obtain ⟨h1, h2⟩ := ha x hx
    have h3 := (mayV h2).2.2
    have h4 := qV_len _ (decs_rune _ x.2.data.toList rfl)
    unfold mayNameB at h1
    rw [Bool.and_eq_true, decide_eq_true_eq] at h1
    unfold partB quoteB
    simp only [List.length_append, List.length_singleton]
    omega
  rw [List.length_map] at hj
  have := Nat.mul_le_mul_right (3900 + 1) hn
  unfold showB joinB
  simp only [List.length_append, List.length_singleton]
  omega
end Go.Proofs.YtkpjfibpaojelaaGreatDoor
namespace Go.Proofs.YtkpjfibpaojelaaGreatDoor
open Go Go.Abs
set_option linter.unusedVariables false
set_option maxRecDepth 100000
set_option maxHeartbeats 4000000
theorem lo8_low {c : Nat} (h : c < 256) : (lo8 (c : Int)).toNat = c := by
  have key : ∀ n : Fin 256, (lo8 ((n.val : Nat) : Int)).toNat = n.val := by decide +kernel
  exact key ⟨c, h⟩
theorem rdU_uvar : ∀ (k n i : Nat) (r : List UInt8), n < 128 ^ (k + 1) → i + k < 9 → rdU (uvar n ++ r) i = .ok (n * 128 ^ i, (uvar n).length) := by
  intro k
  induction k with
  | zero =>
    intro n i r h hi
    have hb := lo8_low (c := n) (by omega)
    rw [uvar, if_pos (by omega)]
    show rdU (lo8 (n : Int) :: r) i = _
    rw [rdU, if_neg (by omega), if_pos (by omega), hb]
    rfl
  | succ k ih =>
    intro n i r h hi
    by_cases h1 : n < 128
    · have hb := lo8_low (c := n) (by omega)
      rw [uvar, if_pos h1]
      show rdU (lo8 (n : Int) :: r) i = _
      rw [rdU, if_neg (by omega), if_pos (by omega), hb]
      rfl
    · have hb := wrap_hi8 (n := (n : Int)) (by omega)
      have h2 := ih (n / 128) (i + 1) r (by rw [Nat.pow_succ] at h; exact Nat.div_lt_of_lt_mul (by omega)) (by omega)
      rw [uvar, if_neg h1]
      show rdU (hi8 (lo8 (n : Int)) :: (uvar (n / 128) ++ r)) i = _
      rw [rdU, if_neg (by omega), if_neg (by omega), h2]
      show Except.ok (_ + _, _ + 1) = _
      have e : ((hi8 (lo8 (n : Int))).toNat - 128) * 128 ^ i + n / 128 * 128 ^ (i + 1) = n * 128 ^ i := by
        rw [Nat.pow_succ, Nat.mul_comm (128 ^ i), ← Nat.mul_assoc, ← Nat.add_mul]
        congr 1
        omega
      rw [e, List.length_cons]
theorem rdU_short : ∀ (l : List UInt8) (i n k : Nat), rdU l i = .ok (n, k) → ∃ m, n = m * 128 ^ i ∧ (uvar m).length ≤ k := by
  intro l
  induction l with
  | nil => intro i n k h; cases h
  | cons b r ih =>
    intro i n k h
    rw [rdU] at h
    split at h
    · cases h
    · split at h
      · cases h
        rename_i h1
        exact ⟨b.toNat, rfl, by rw [uvar, if_pos h1]; exact Nat.le_refl _⟩
      · split at h
        · rename_i h1 n2 k2 e
          obtain ⟨m2, e2, h2⟩ := ih _ _ _ e
          cases h
          have hb := b.toNat_lt
          refine ⟨(b.toNat - 128) + 128 * m2, ?_, ?_⟩
          · rw [e2, Nat.pow_succ, Nat.add_mul]
            congr 1
            rw [Nat.mul_comm (128 ^ i), ← Nat.mul_assoc, Nat.mul_comm m2]
          · rw [uvar]
            split
            · exact Nat.succ_le_succ (Nat.zero_le _)
            · rw [List.length_cons, show ((b.toNat - 128) + 128 * m2) / 128 = m2 by omega]
              exact Nat.succ_le_succ h2
        · cases h
theorem exs {r : Except Nat (Nat × Nat)} (he : ∀ e, r = .error e → e ≠ 0) (h : exE r = 0) : ∃ n k, r = .ok (n, k) := by
  cases r with
  | ok q => exact ⟨q.1, q.2, rfl⟩
  | error e => exfalso; exact he e rfl (by have : ((e : Nat) : Int) = 0 := h; omega)
theorem txr_read {s : ByteArray} {p e most : Int} (h0 : 0 ≤ p) (h1 : p ≤ (s.data.toList.length : Nat)) (h : (txr s p e most).2.2 = 0) :
    e = 0 ∧ ∃ n k : Nat, rdU (s.data.toList.drop p.toNat) 0 = .ok (n, k) ∧ p + k + n ≤ (s.data.toList.length : Nat) ∧ txr s p e most = (sub s (p + k) (p + k + n), p + k + n, 0) := by
  unfold txr at h ⊢
  by_cases he : e = 0
  · subst he
    refine ⟨rfl, ?_⟩
    rw [if_pos rfl] at h ⊢
    by_cases hv : (vrd s p 0 most).2.2 = 0
    · rw [if_pos hv] at h ⊢
      have hv' := hv
      unfold vrd at hv'
      rw [if_pos rfl] at hv'
      by_cases hx : exE (rdN s p) = 0
      · rw [if_pos hx] at hv'
        obtain ⟨n, k, hr⟩ := exs (fun e q => rdU_e _ _ _ q) hx
        by_cases hm : most < exN (rdN s p)
        · rw [if_pos hm] at hv'; cases hv'
        · have ev : vrd s p 0 most = (((n : Nat) : Int), p + (k : Nat), 0) := by
            unfold vrd
            rw [if_pos rfl, if_pos hx, if_neg hm, show rdN s p = .ok (n, k) from hr]
            rfl
          rw [ev] at h ⊢
          by_cases hl : ((s.data.toList.length : Nat) : Int) - (p + (k : Nat)) < (n : Nat)
          · have hl' : ((s.data.toList.length : Nat) : Int) - ((((n : Nat) : Int), p + ((k : Nat) : Int), (0 : Int)) : Int × Int × Int).2.1 < ((((n : Nat) : Int), p + ((k : Nat) : Int), (0 : Int)) : Int × Int × Int).1 := hl
            rw [if_pos hl'] at h
            cases h
          · have hl' : ¬ ((s.data.toList.length : Nat) : Int) - ((((n : Nat) : Int), p + ((k : Nat) : Int), (0 : Int)) : Int × Int × Int).2.1 < ((((n : Nat) : Int), p + ((k : Nat) : Int), (0 : Int)) : Int × Int × Int).1 := hl
            rw [if_neg hl']
            refine ⟨n, k, hr, by omega, ?_⟩
            show raw s (p + (k : Nat)) 0 (n : Nat) = _
            unfold raw
            rw [if_pos rfl, if_neg hl]
      · rw [if_neg hx] at hv'
        exact (hx hv').elim
    · rw [if_neg hv] at h
      exact (hv h).elim
  · rw [if_neg he] at h
    exact (he h).elim
theorem txr_of {s : ByteArray} {p most : Int} {n k : Nat} (hr : rdU (s.data.toList.drop p.toNat) 0 = .ok (n, k)) (hm : ((n : Nat) : Int) ≤ most) (hl : p + k + n ≤ (s.data.toList.length : Nat)) : txr s p 0 most = (sub s (p + k) (p + k + n), p + k + n, 0) := by
  have ev : vrd s p 0 most = (((n : Nat) : Int), p + (k : Nat), 0) := by
    unfold vrd rdN
    rw [if_pos rfl, hr]
    show (if (0 : Int) = 0 then (if most < ((n : Nat) : Int) then _ else _) else _) = _
    rw [if_pos rfl, if_neg (by omega)]
    rfl
  unfold txr
  rw [if_pos rfl, ev]
  show (if (0 : Int) = 0 then (if ((s.data.toList.length : Nat) : Int) - (p + (k : Nat)) < (n : Nat) then _ else raw s (p + (k : Nat)) 0 (n : Nat)) else _) = _
  rw [if_pos rfl, if_neg (by omega)]
  unfold raw
  rw [if_pos rfl, if_neg (by omega)]
theorem txr_txt {s : ByteArray} {p most : Int} {t : ByteArray} {r : List UInt8} (h0 : 0 ≤ p) (hd : s.data.toList.drop p.toNat = txt t ++ r) (hm : ((t.data.toList.length : Nat) : Int) ≤ most) (hs : t.data.toList.length < 16384) :
    txr s p 0 most = (t, p + ((txt t).length : Nat), 0) ∧ s.data.toList.drop (p + ((txt t).length : Nat)).toNat = r ∧ p + ((txt t).length : Nat) ≤ (s.data.toList.length : Nat) := by
  have hl := congrArg List.length hd
  have htl : (txt t).length = (uvar t.data.toList.length).length + t.data.toList.length := by unfold txt; rw [List.length_append]
  have hup := uvar_pos t.data.toList.length
  rw [List.length_drop, List.length_append] at hl
  have hr : rdU (s.data.toList.drop p.toNat) 0 = .ok (t.data.toList.length, (uvar t.data.toList.length).length) := by
    rw [hd]
    unfold txt
    rw [List.append_assoc, rdU_uvar 1 _ 0 _ (by omega) (by omega), Nat.pow_zero, Nat.mul_one]
  refine ⟨?_, ?_, by omega⟩
  · rw [txr_of hr hm (by omega)]
    have e : p + ((uvar t.data.toList.length).length : Nat) + (t.data.toList.length : Nat) = p + ((txt t).length : Nat) := by omega
    rw [e]
    have hsub : sub s (p + ((uvar t.data.toList.length).length : Nat)) (p + ((txt t).length : Nat)) = t := by
      apply ByteArray.ext
      apply Array.ext'
      show (s.data.toList.drop (p + ((uvar t.data.toList.length).length : Nat)).toNat).take ((p + ((txt t).length : Nat)).toNat - (p + ((uvar t.data.toList.length).length : Nat)).toNat) = t.data.toList
      rw [show (p + ((uvar t.data.toList.length).length : Nat)).toNat = p.toNat + (uvar t.data.toList.length).length by omega, ← List.drop_drop, hd]
      unfold txt
      rw [List.append_assoc, List.drop_left, show (p + ((uvar t.data.toList.length ++ t.data.toList).length : Nat)).toNat - (p.toNat + (uvar t.data.toList.length).length) = t.data.toList.length by rw [List.length_append]; omega, List.take_left]
    rw [hsub]
  · rw [show (p + ((txt t).length : Nat)).toNat = p.toNat + (txt t).length by omega, ← List.drop_drop, hd, List.drop_left]
theorem keyB_cons (x : Lab) (r : List Lab) : keyB (x :: r) = txt x.1 ++ (txt x.2 ++ keyB r) := by
  show (txt x.1 ++ txt x.2) ++ keyB r = _
  rw [List.append_assoc]
theorem txt_pos (s : ByteArray) : 0 < (txt s).length := by
  unfold txt
  have := uvar_pos s.data.toList.length
  rw [List.length_append]; omega
theorem ofL_key : ∀ (xs : List Lab) (s : ByteArray) (f : Nat) (p : Int) (acc : List Lab), 0 ≤ p → p ≤ (s.data.toList.length : Nat) → s.data.toList.drop p.toNat = keyB xs → xs.length < f → (∀ x ∈ xs, x.1.data.toList.length ≤ 64 ∧ x.2.data.toList.length ≤ 256) → ofL s f p acc = (acc ++ xs, 0) := by
  intro xs
  induction xs with
  | nil =>
    intro s f p acc h0 h1 hd hf _
    obtain ⟨g, rfl⟩ : ∃ g, f = g + 1 := ⟨f - 1, by omega⟩
    have := congrArg List.length hd
    rw [List.length_drop] at this
    change _ = 0 at this
    rw [ofL, if_neg (by omega), List.append_nil]
  | cons x r ih =>
    intro s f p acc h0 h1 hd hf hx
    rw [List.length_cons] at hf
    obtain ⟨g, rfl⟩ : ∃ g, f = g + 1 := ⟨f - 1, by omega⟩
    obtain ⟨hx1, hx2⟩ := hx x List.mem_cons_self
    rw [keyB_cons] at hd
    obtain ⟨e1, d1, l1⟩ := txr_txt (most := 64) h0 hd (by omega) (by omega)
    obtain ⟨e2, d2, l2⟩ := txr_txt (most := 256) (by omega) d1 (by omega) (by omega)
    have hp := txt_pos x.1
    rw [ofL, if_pos (by omega), e1]
    show (if (txr s (p + ((txt x.1).length : Nat)) 0 256).2.2 = 0 then ofL s g (txr s (p + ((txt x.1).length : Nat)) 0 256).2.1 (acc ++ [(x.1, (txr s (p + ((txt x.1).length : Nat)) 0 256).1)]) else _) = _
    rw [e2]
    show (if (0 : Int) = 0 then ofL s g (p + ((txt x.1).length : Nat) + ((txt x.2).length : Nat)) (acc ++ [(x.1, x.2)]) else _) = _
    rw [if_pos rfl, ih s g _ _ (by omega) l2 d2 (by omega) (fun y hy => hx y (List.mem_cons_of_mem _ hy))]
    simp
theorem keyB_snoc (ls : List Lab) (x : Lab) : keyB (ls ++ [x]) = keyB ls ++ (txt x.1 ++ txt x.2) := by unfold keyB; rw [List.flatMap_append]; simp
theorem ofL_short : ∀ (f : Nat) (s : ByteArray) (p : Int) (acc ls : List Lab), 0 ≤ p → p ≤ (s.data.toList.length : Nat) → ofL s f p acc = (ls, 0) → ((keyB ls).length : Int) ≤ (keyB acc).length + ((s.data.toList.length : Nat) - p) := by
  intro f
  induction f with
  | zero => intro s p acc ls h0 h1 h; cases h; omega
  | succ f ih =>
    intro s p acc ls h0 h1 h
    rw [ofL] at h
    by_cases hp : p < (s.data.toList.length : Nat)
    · rw [if_pos hp] at h
      by_cases he : (txr s (txr s p 0 64).2.1 (txr s p 0 64).2.2 256).2.2 = 0
      · rw [if_pos he] at h
        have ha := txr_at (s := s) (p := p) (e := 0) (most := 64) h0 h1 (by decide)
        obtain ⟨z1, n2, k2, r2, l2, t2⟩ := txr_read ha.1 ha.2 he
        obtain ⟨_, n1, k1, r1, l1, t1⟩ := txr_read h0 h1 z1
        rw [t2] at h
        rw [t1] at h r2 l2
        obtain ⟨m1, q1, u1⟩ := rdU_short _ _ _ _ r1
        obtain ⟨m2, q2, u2⟩ := rdU_short _ _ _ _ r2
        rw [Nat.pow_zero, Nat.mul_one] at q1 q2
        subst q1 q2
        have hh := ih s _ _ ls (by show (0 : Int) ≤ p + k1 + n1 + k2 + n2; omega) l2 h
        rw [keyB_snoc] at hh
        have s1 : (sub s (p + k1) (p + k1 + n1)).data.toList.length = n1 := by
          show ((s.data.toList.drop (p + k1).toNat).take ((p + k1 + n1).toNat - (p + k1).toNat)).length = n1
          rw [List.length_take, List.length_drop]
          omega
        have s2 : (sub s (p + k1 + n1 + k2) (p + k1 + n1 + k2 + n2)).data.toList.length = n2 := by
          show ((s.data.toList.drop (p + k1 + n1 + k2).toNat).take ((p + k1 + n1 + k2 + n2).toNat - (p + k1 + n1 + k2).toNat)).length = n2
          rw [List.length_take, List.length_drop]
          change p + k1 + n1 + k2 + n2 ≤ _ at l2
          omega
        change ((keyB ls).length : Int) ≤ ((keyB acc ++ (txt (sub s (p + k1) (p + k1 + n1)) ++ txt (sub s (p + k1 + n1 + k2) (p + k1 + n1 + k2 + n2)))).length : Nat) + ((s.data.toList.length : Nat) - (p + k1 + n1 + k2 + n2)) at hh
        have x1 : (txt (sub s (p + k1) (p + k1 + n1))).length ≤ k1 + n1 := by unfold txt; rw [List.length_append, s1]; omega
        have x2 : (txt (sub s (p + k1 + n1 + k2) (p + k1 + n1 + k2 + n2))).length ≤ k2 + n2 := by unfold txt; rw [List.length_append, s2]; omega
        rw [List.length_append, List.length_append] at hh
        omega
      · rw [if_neg he] at h
        exact (he (congrArg Prod.snd h)).elim
    · rw [if_neg hp] at h
      cases h
      omega
theorem key_size (ls : List Lab) : ls.length ≤ (keyB ls).length := by
  induction ls with
  | nil => exact Nat.le_refl _
  | cons x r ih =>
    have := txt_pos x.1
    rw [keyB_cons, List.length_cons, List.length_append, List.length_append]
    omega
theorem of_key {ls : List Lab} (h : mayB ls = true) (hsz : ∀ x ∈ ls, x.1.data.toList.length < 16384 ∧ x.2.data.toList.length < 16384) (hlim : ∀ x ∈ ls, x.1.data.toList.length ≤ 64 ∧ x.2.data.toList.length ≤ 256) : ofB (strB (keyB ls)) = (ls, 0) := by
  have := ofL_key ls (strB (keyB ls)) ((strB (keyB ls)).data.toList.length + 1) 0 [] (by omega) (by omega) rfl (by have := key_size ls; show _ < (keyB ls).length + 1; omega) hlim
  unfold ofB
  rw [this]
  show (if (0 : Int) = 0 then (if mayB ([] ++ ls) = true then ([] ++ ls, (0 : Int)) else ([], 4)) else _) = _
  rw [if_pos rfl, List.nil_append, if_pos h]
theorem of_ok {s : ByteArray} {ls : List Lab} (h : (ofB s).2 = 0) (hl : (ofB s).1 = ls) : mayB ls = true ∧ (keyB ls).length ≤ s.data.toList.length := by
  unfold ofB at h hl
  split at h
  · rename_i e
    rw [if_pos e] at hl
    split at h
    · rename_i e2
      rw [if_pos e2] at hl
      subst hl
      have := ofL_short _ s 0 [] (ofL s (s.data.toList.length + 1) 0 []).1 (by omega) (by omega) (Prod.ext rfl e)
      refine ⟨e2, ?_⟩
      generalize ofL s (s.data.toList.length + 1) 0 [] = q at this ⊢
      change ((keyB q.1).length : Int) ≤ ((0 : Nat) : Int) + _ at this
      show (keyB q.1).length ≤ _
      omega
    · cases h
  · rename_i e
    exact (e h).elim
end Go.Proofs.YtkpjfibpaojelaaGreatDoor
namespace Go.Proofs.YtkpjfibpaojelaaGreatDoor
open Go Go.Abs
set_option maxRecDepth 100000
set_option maxHeartbeats 4000000
theorem par_may {l : List UInt8} {ls : List Lab} (h : parP l = some ls) : mayB ls = true := by
  unfold parP at h
  split at h
  · split at h
    · cases h
    · split at h
      · cases h
      · split at h
        · rename_i q; cases h; exact q.2.2
        · cases h
  · cases h
theorem may_cnt {ls : List Lab} (h : mayB ls = true) : 1 ≤ ls.length ∧ ls.length ≤ 16 := by
  unfold mayB at h
  rw [Bool.and_eq_true, decide_eq_true_eq] at h
  exact h.1
theorem par_yes {s : ByteArray} {ls : List Lab} (h : parP s.data.toList = some ls) : parB s = (ls, 0) := by unfold parB; rw [h]
theorem par_none {s : ByteArray} (h : parP s.data.toList = none) : parB s = ([], 4) := by unfold parB; rw [h]
theorem parB_ok {s : ByteArray} (h : (parB s).2 = 0) : mayB (parB s).1 = true := by
  cases e : parP s.data.toList with
  | none => rw [par_none e] at h; cases h
  | some ls => rw [par_yes e]; exact par_may e
theorem par_back {ls : List Lab} (h : mayB ls = true) : parB (showS ls) = (ls, 0) := by
  rw [(show_yes h).1]
  exact par_yes (par_show h)
theorem flat_len (ds : List (Nat × Nat)) : (ds.flatMap fun d => encR (d.1 : Nat)).length ≤ 4 * ds.length := by
  induction ds with
  | nil => exact Nat.zero_le _
  | cons d r ih =>
    have := enc_len (d.1 : Int)
    rw [List.flatMap_cons, List.length_append, List.length_cons]
    omega
theorem may_lim {ls : List Lab} (h : mayB ls = true) : ∀ x ∈ ls, x.1.data.toList.length ≤ 64 ∧ x.2.data.toList.length ≤ 256 := by
  intro x hx
  obtain ⟨h1, h2⟩ := may_mem h x hx
  have h3 := mayV h2
  have h4 := flat_len (decs x.2.data.toList)
  rw [decs_enc _ (all_good h3.1)] at h4
  unfold mayNameB at h1
  rw [Bool.and_eq_true, decide_eq_true_eq] at h1
  exact ⟨h1.1.2, by omega⟩
theorem sz_mid {ls : List Lab} (h : ∀ x ∈ ls, x.1.data.toList.length < 5000 ∧ x.2.data.toList.length < 5000) : ∀ x ∈ ls, x.1.data.toList.length < 16384 ∧ x.2.data.toList.length < 16384 := fun x hx => by
  have := h x hx; omega
theorem may_sz {ls : List Lab} (h : mayB ls = true) : ∀ x ∈ ls, x.1.data.toList.length < 5000 ∧ x.2.data.toList.length < 5000 := fun x hx => by
  have := may_lim h x hx; omega
theorem of_back {ls : List Lab} (h : mayB ls = true) : ofB (strB (keyB ls)) = (ls, 0) := of_key h (sz_mid (may_sz h)) (may_lim h)
theorem show_len {ls : List Lab} : (showS ls).data.toList.length ≤ 64000 := by
  rcases Bool.eq_false_or_eq_true (mayB ls) with h | h
  · rw [(show_yes h).1, strB_len]; have := show_short h; omega
  · rw [(show_no h).1]; exact Nat.zero_le _
theorem key_len {ls : List Lab} (h : ls.length ≤ 500) (hsz : ∀ x ∈ ls, x.1.data.toList.length < 5000 ∧ x.2.data.toList.length < 5000) : (strB (keyB ls)).data.toList.length < 1000000000 := by
  rw [strB_len]
  have := keyB_len ls hsz
  have := Nat.mul_le_mul_right 10100 h
  omega
theorem str_ne_self (a : ByteArray) : some (Value.bool (!eqS a a)) = some (.bool false) := by
  rw [eqS_of.2 rfl]; rfl
theorem f15_may {h : Heap} {n : Nat} {a : Option Addr} {cp : Nat} (ls : List Lab) (hl : IsRow encLab h (.slice a ls.length cp) ls) (hm : mayB ls = true) (hld : Laid0 h) :
    Tells Tryz.prog 15 [.slice a ls.length cp] h n (.tuple #[.string (showS ls), .int .i64 0]) := by
  have := f15_spec (n := n) ls hl (by have := (may_cnt hm).2; omega) (may_sz hm) hld
  rw [(show_yes hm).2] at this
  exact this
theorem f24_may {h : Heap} {n : Nat} {a : Option Addr} {cp : Nat} (ls : List Lab) (hl : IsRow encLab h (.slice a ls.length cp) ls) (hm : mayB ls = true) (hld : Laid0 h) :
    Tells Tryz.prog 24 [.slice a ls.length cp] h n (.bool true) := by
  have := f24_spec (n := n) ls hl (by have := (may_cnt hm).2; omega) (sz_big (may_sz hm)) hld
  rw [hm] at this
  exact this
theorem f26_self {h : Heap} {n : Nat} {a a2 : Option Addr} {cp cp2 : Nat} (ls : List Lab) (hl : IsRow encLab h (.slice a ls.length cp) ls) (h2 : IsRow encLab h (.slice a2 ls.length cp2) ls) (hm : mayB ls = true) :
    Tells Tryz.prog 26 [.slice a ls.length cp, .slice a2 ls.length cp2] h n (.bool true) := by
  have := f26_spec (n := n) ls ls hl h2 (by have := (may_cnt hm).2; omega)
  rw [decide_eq_true rfl] at this
  exact this
theorem f18_back {h : Heap} {n : Nat} (ls : List Lab) (hm : mayB ls = true) (hld : Laid0 h) :
    Makes Tryz.prog 18 [.string (showS ls)] h n [] fun v h2 _ => ∃ (a : Option Addr) (cp : Nat), v = .tuple #[.slice a ls.length cp, .int .i64 0] ∧ OwnRow encLab 40 h h2 (.slice a ls.length cp) ls := by
  have := f18_spec (n := n) (showS ls) (by have := show_len (ls := ls); omega) hld
  rw [par_back hm] at this
  exact this
theorem f28_may {h : Heap} {n : Nat} {a : Option Addr} {cp : Nat} (ls : List Lab) (hl : IsRow encLab h (.slice a ls.length cp) ls) (hm : mayB ls = true) :
    Tells Tryz.prog 28 [.slice a ls.length cp] h n (.string (strB (keyB ls))) := f28_spec ls hl (by have := (may_cnt hm).2; omega) (may_sz hm)
theorem f33_back {h : Heap} {n : Nat} (ls : List Lab) (hm : mayB ls = true) (hld : Laid0 h) :
    Makes Tryz.prog 33 [.string (strB (keyB ls))] h n [] fun v h2 _ => ∃ a cp, v = .tuple #[.slice a ls.length cp, .int .i64 0] ∧ OwnRow encLab 40 h h2 (.slice a ls.length cp) ls := by
  have := f33_spec (n := n) (strB (keyB ls)) (key_len (by have := (may_cnt hm).2; omega) (may_sz hm)) hld
  rw [of_back hm] at this
  exact this
theorem of_bad {s : ByteArray} (h : ¬ (ofB s).2 = 0) : (ofB s).1 = [] := by
  unfold ofB at h ⊢
  split at h
  · rename_i e
    rw [if_pos e]
    split at h
    · exact (h rfl).elim
    · rename_i e2; rw [if_neg e2]
  · rename_i e; rw [if_neg e]
theorem f11_spec {h : Heap} {n : Nat} (s q : ByteArray) (hld : Laid0 h) :
    Tells Tryz.prog 11 [.string (s), .string (q)] h n (.bool true) := by
  refine Makes.tells (Makes.free fun hf => ?_)
  have hs : SubBut h h ([]) := .refl _ _
  have hn : n ≤ n := Nat.le_refl _
  have hf0 := hf
  refine Makes.of_bodyV (args := [.string (s), .string (q)]) (vs := [.string (s), .string (q), undef, undef, undef, undef, undef, undef, undef, undef, undef, undef, undef, undef, undef, undef, undef, undef, undef, undef, undef, undef, undef, undef, undef, undef, undef, undef, undef, undef, undef, undef, undef, undef, undef, undef, undef, undef, undef, undef, undef, undef, undef, undef, undef, undef, undef, undef, undef, undef, undef, undef, undef, undef, undef, undef, undef, undef, undef, undef, undef, undef, undef, undef, undef, undef, undef, undef, undef, undef, undef, undef, undef, undef, undef, undef, undef, undef, undef, undef, undef, undef, undef, undef, undef, undef, undef, undef, undef, undef, undef, undef, undef, undef, undef, undef, undef, undef, undef, undef, undef, undef, undef, undef, undef, undef, undef, undef, undef, undef, undef, undef, undef, undef]) Tryz.func11 rfl rfl ?_
  refine AWp.seq (AWp.rowV (l := _) pok ?_)
  refine sq.c (v := .bool false) rfl rfl rfl rfl ?_
  refine sq.e (AWp.seq (AWp.seq (AWp.rowV (l := _) pok ?_)))
  refine sq.c (v := .string (s)) rfl rfl rfl rfl ?_
  refine sq.c (v := .int .i64 ((((s).data.toList.length : Nat) : Int))) rfl rfl (by kernel_rfl) rfl ?_
  refine sq.c (v := .bool (decide ((3000 : Int) < ((((s).data.toList.length : Nat) : Int))))) rfl rfl rfl rfl ?_
  refine sq.c (v := .bool (decide ((3000 : Int) < ((((s).data.toList.length : Nat) : Int))))) rfl rfl rfl rfl ?_
  by_cases c1_2 : (3000 : Int) < ((((s).data.toList.length : Nat) : Int))
  · rw [decide_eq_true c1_2]
    refine sq.s (wantF (g := 3) (d := 21) rfl rfl rfl) rfl ?_
    refine sq.s (wantF (g := 3) (d := 21) rfl rfl rfl) rfl ?_
    refine sq.s (wantF (g := 3) (d := 21) rfl rfl rfl) rfl ?_
    refine sq.c (v := .bool true) rfl rfl rfl rfl ?_
    refine sq.c (v := .bool true) rfl rfl rfl rfl ?_
    refine sq.s (wantF (g := 8) (d := 26) rfl rfl rfl) rfl ?_
    refine sq.s (wantF (g := 8) (d := 26) rfl rfl rfl) rfl ?_
    refine sq.c (v := .bool true) rfl rfl rfl rfl ?_
    refine sq.e ?_
    refine AWp.condT rfl rfl ?_
    refine AWp.seq (AWp.rowV (l := _) pok ?_)
    refine sq.t (v := .bool true) rfl (CallsF.fn rfl (by kernel_rfl) rfl rfl) (fun hf => f13_spec (hld.keep hs)) hf rfl ?_
    intro n1 hn2 hf
    have hn := Nat.le_trans hn hn2
    refine sq.c (v := .bool true) rfl rfl rfl rfl ?_
    refine sq.e ?_
    refine AWp.ret ?_
    refine ⟨rfl, [.bool true], rfl, .bool true, rfl, hs, hn, ?_⟩
    rfl
  · rw [decide_eq_false c1_2]
    refine sq.c (v := .string (q)) (wantT (g := 3) (d := 21) rfl rfl rfl) rfl rfl rfl ?_
    refine sq.c (v := .int .i64 ((((q).data.toList.length : Nat) : Int))) (wantT (g := 3) (d := 21) rfl rfl rfl) rfl (by kernel_rfl) rfl ?_
    refine sq.c (v := .bool (decide ((3000 : Int) < ((((q).data.toList.length : Nat) : Int))))) (wantT (g := 3) (d := 21) rfl rfl rfl) rfl rfl rfl ?_
    refine sq.c (v := .bool (decide ((3000 : Int) < ((((q).data.toList.length : Nat) : Int))))) rfl rfl rfl rfl ?_
    refine sq.c (v := .bool (decide ((3000 : Int) < ((((q).data.toList.length : Nat) : Int))))) rfl rfl rfl rfl ?_
    by_cases c1_6 : (3000 : Int) < ((((q).data.toList.length : Nat) : Int))
    · rw [decide_eq_true c1_6]
      refine sq.s (wantF (g := 8) (d := 26) rfl rfl rfl) rfl ?_
      refine sq.s (wantF (g := 8) (d := 26) rfl rfl rfl) rfl ?_
      refine sq.c (v := .bool true) rfl rfl rfl rfl ?_
      refine sq.e ?_
      refine AWp.condT rfl rfl ?_
      refine AWp.seq (AWp.rowV (l := _) pok ?_)
      refine sq.t (v := .bool true) rfl (CallsF.fn rfl (by kernel_rfl) rfl rfl) (fun hf => f13_spec (hld.keep hs)) hf rfl ?_
      intro n2 hn2 hf
      have hn := Nat.le_trans hn hn2
      refine sq.c (v := .bool true) rfl rfl rfl rfl ?_
      refine sq.e ?_
      refine AWp.ret ?_
      refine ⟨rfl, [.bool true], rfl, .bool true, rfl, hs, hn, ?_⟩
      rfl
    · rw [decide_eq_false c1_6]
      refine sq.t (v := .bool true) (wantT (g := 8) (d := 26) rfl rfl rfl) (CallsF.fn rfl (by kernel_rfl) rfl rfl) (fun hf => f13_spec (hld.keep hs)) hf rfl ?_
      intro n3 hn2 hf
      have hn := Nat.le_trans hn hn2
      refine sq.c (v := .bool false) (wantT (g := 8) (d := 26) rfl rfl rfl) rfl rfl rfl ?_
      refine sq.c (v := .bool false) rfl rfl rfl rfl ?_
      refine sq.e ?_
      refine AWp.condF rfl rfl ?_
      refine AWp.skip (AWp.seq (AWp.rowV (l := _) pok ?_))
      refine sq.c (v := .string (s)) rfl rfl rfl rfl ?_
      refine sq.k rfl (CallsF.fn rfl (by kernel_rfl) rfl rfl) (f18_spec s (by omega) (hld.keep hs)) ?_
      rintro _ h4 n5 ⟨a_x, cp_x, rfl, R_x⟩ s6 hn2 hf
      have R_x := R_x.is
      refine sq.w ?_
      have hs := hs.trans s6
      have hn := Nat.le_trans hn hn2
      refine sq.c (v := .tuple #[.slice a_x (parB s).1.length cp_x, .int .i64 ((parB s).2)]) rfl rfl rfl rfl ?_
      refine sq.c (v := .slice a_x (parB s).1.length cp_x) rfl rfl rfl rfl ?_
      refine sq.c (v := .int .i64 ((parB s).2)) rfl rfl rfl rfl ?_
      refine sq.c (v := .slice a_x (parB s).1.length cp_x) rfl rfl rfl rfl ?_
      refine sq.c (v := .int .i64 ((parB s).2)) rfl rfl rfl rfl ?_
      refine sq.e (AWp.seq (AWp.seq (AWp.rowV (l := _) pok ?_)))
      refine sq.c (v := .int .i64 ((parB s).2)) rfl rfl rfl rfl ?_
      refine sq.c (v := .bool (decide (((parB s).2) = (0 : Int)))) rfl rfl rfl rfl ?_
      refine sq.e ?_
      by_cases c4_1 : ((parB s).2) = (0 : Int)
      · rw [decide_eq_true c4_1]
        refine AWp.condT rfl rfl ?_
        refine AWp.seq (AWp.rowV (l := _) pok ?_)
        refine sq.c (v := .slice a_x (parB s).1.length cp_x) rfl rfl rfl rfl ?_
        have hm := parB_ok c4_1
        refine sq.t (v := .tuple #[.string (showS (parB s).1), .int .i64 (0)]) rfl (CallsF.fn rfl (by kernel_rfl) rfl rfl) (fun hf => f15_may (parB s).1 R_x hm (hld.keep hs)) hf rfl ?_
        intro n7 hn2 hf
        have hn := Nat.le_trans hn hn2
        refine sq.c (v := .tuple #[.string (showS (parB s).1), .int .i64 (0)]) rfl rfl rfl rfl ?_
        refine sq.c (v := .string (showS (parB s).1)) rfl rfl rfl rfl ?_
        refine sq.c (v := .int .i64 (0)) rfl rfl rfl rfl ?_
        refine sq.c (v := .string (showS (parB s).1)) rfl rfl rfl rfl ?_
        refine sq.c (v := .int .i64 (0)) rfl rfl rfl rfl ?_
        refine sq.e (AWp.seq (AWp.rowV (l := _) pok ?_))
        refine sq.c (v := .string (showS (parB s).1)) rfl rfl rfl rfl ?_
        refine sq.k rfl (CallsF.fn rfl (by kernel_rfl) rfl rfl) (f18_back (parB s).1 hm (hld.keep hs)) ?_
        rintro _ h8 n9 ⟨a_z, cp_z, rfl, R_z⟩ s10 hn2 hf
        have R_z := R_z.is
        refine sq.w ?_
        have R_x := R_x.keep s10
        have hs := hs.trans s10
        have hn := Nat.le_trans hn hn2
        refine sq.c (v := .tuple #[.slice a_z (parB s).1.length cp_z, .int .i64 (0)]) rfl rfl rfl rfl ?_
        refine sq.c (v := .slice a_z (parB s).1.length cp_z) rfl rfl rfl rfl ?_
        refine sq.c (v := .int .i64 (0)) rfl rfl rfl rfl ?_
        refine sq.c (v := .slice a_z (parB s).1.length cp_z) rfl rfl rfl rfl ?_
        refine sq.c (v := .int .i64 (0)) rfl rfl rfl rfl ?_
        refine sq.e (AWp.seq (AWp.rowV (l := _) pok ?_))
        refine sq.c (v := .slice a_z (parB s).1.length cp_z) rfl rfl rfl rfl ?_
        refine sq.t (v := .tuple #[.string (showS (parB s).1), .int .i64 (0)]) rfl (CallsF.fn rfl (by kernel_rfl) rfl rfl) (fun hf => f15_may (parB s).1 R_z hm (hld.keep hs)) hf rfl ?_
        intro n11 hn2 hf
        have hn := Nat.le_trans hn hn2
        refine sq.c (v := .tuple #[.string (showS (parB s).1), .int .i64 (0)]) rfl rfl rfl rfl ?_
        refine sq.c (v := .string (showS (parB s).1)) rfl rfl rfl rfl ?_
        refine sq.c (v := .int .i64 (0)) rfl rfl rfl rfl ?_
        refine sq.c (v := .string (showS (parB s).1)) rfl rfl rfl rfl ?_
        refine sq.c (v := .int .i64 (0)) rfl rfl rfl rfl ?_
        refine sq.e (AWp.seq (AWp.rowV (l := _) pok ?_))
        refine sq.c (v := .slice a_x (parB s).1.length cp_x) rfl rfl rfl rfl ?_
        refine sq.t (v := .bool true) rfl (CallsF.fn rfl (by kernel_rfl) rfl rfl) (fun hf => f24_may (parB s).1 R_x hm (hld.keep hs)) hf rfl ?_
        intro n12 hn2 hf
        have hn := Nat.le_trans hn hn2
        refine sq.c (v := .bool false) rfl rfl rfl rfl ?_
        refine sq.c (v := .bool false) rfl rfl rfl rfl ?_
        refine sq.c (v := .int .i64 (0)) (wantT (g := 3) (d := 56) rfl rfl rfl) rfl rfl rfl ?_
        refine sq.c (v := .bool false) (wantT (g := 3) (d := 56) rfl rfl rfl) rfl rfl rfl ?_
        refine sq.c (v := .bool false) rfl rfl rfl rfl ?_
        refine sq.c (v := .bool false) rfl rfl rfl rfl ?_
        refine sq.c (v := .int .i64 (0)) (wantT (g := 7) (d := 60) rfl rfl rfl) rfl rfl rfl ?_
        refine sq.c (v := .bool false) (wantT (g := 7) (d := 60) rfl rfl rfl) rfl rfl rfl ?_
        refine sq.c (v := .bool false) rfl rfl rfl rfl ?_
        refine sq.c (v := .bool false) rfl rfl rfl rfl ?_
        refine sq.c (v := .int .i64 (0)) (wantT (g := 11) (d := 64) rfl rfl rfl) rfl rfl rfl ?_
        refine sq.c (v := .bool false) (wantT (g := 11) (d := 64) rfl rfl rfl) rfl rfl rfl ?_
        refine sq.c (v := .bool false) rfl rfl rfl rfl ?_
        refine sq.c (v := .bool false) rfl rfl rfl rfl ?_
        refine sq.c (v := .slice a_x (parB s).1.length cp_x) (wantT (g := 15) (d := 68) rfl rfl rfl) rfl rfl rfl ?_
        refine sq.c (v := .slice a_z (parB s).1.length cp_z) (wantT (g := 15) (d := 68) rfl rfl rfl) rfl rfl rfl ?_
        refine sq.t (v := .bool true) (wantT (g := 15) (d := 68) rfl rfl rfl) (CallsF.fn rfl (by kernel_rfl) rfl rfl) (fun hf => f26_self (parB s).1 R_x R_z hm) hf rfl ?_
        intro n13 hn2 hf
        have hn := Nat.le_trans hn hn2
        refine sq.c (v := .bool false) (wantT (g := 15) (d := 68) rfl rfl rfl) rfl rfl rfl ?_
        refine sq.c (v := .bool false) rfl rfl rfl rfl ?_
        refine sq.c (v := .bool false) rfl rfl rfl rfl ?_
        refine sq.c (v := .string (showS (parB s).1)) (wantT (g := 21) (d := 74) rfl rfl rfl) rfl rfl rfl ?_
        refine sq.c (v := .string (showS (parB s).1)) (wantT (g := 21) (d := 74) rfl rfl rfl) rfl rfl rfl ?_
        refine sq.c (v := .bool false) (wantT (g := 21) (d := 74) rfl rfl rfl) rfl (str_ne_self _) rfl ?_
        refine sq.c (v := .bool false) rfl rfl rfl rfl ?_
        refine sq.e ?_
        refine AWp.condF rfl rfl ?_
        refine AWp.skip (AWp.seq (AWp.rowV (l := _) pok ?_))
        refine sq.c (v := .string (q)) rfl rfl rfl rfl ?_
        refine sq.k rfl (CallsF.fn rfl (by kernel_rfl) rfl rfl) (f33_spec q (by omega) (hld.keep hs)) ?_
        rintro _ h14 n15 ⟨a_y, cp_y, rfl, R_y⟩ s16 hn2 hf
        have R_y := R_y.is
        refine sq.w ?_
        have hs := hs.trans s16
        have hn := Nat.le_trans hn hn2
        refine sq.c (v := .tuple #[.slice a_y (ofB q).1.length cp_y, .int .i64 ((ofB q).2)]) rfl rfl rfl rfl ?_
        refine sq.c (v := .slice a_y (ofB q).1.length cp_y) rfl rfl rfl rfl ?_
        refine sq.c (v := .int .i64 ((ofB q).2)) rfl rfl rfl rfl ?_
        refine sq.c (v := .slice a_y (ofB q).1.length cp_y) rfl rfl rfl rfl ?_
        refine sq.c (v := .int .i64 ((ofB q).2)) rfl rfl rfl rfl ?_
        refine sq.e (AWp.seq (AWp.seq (AWp.rowV (l := _) pok ?_)))
        refine sq.c (v := .int .i64 ((ofB q).2)) rfl rfl rfl rfl ?_
        refine sq.c (v := .bool (!decide (((ofB q).2) = (0 : Int)))) rfl rfl rfl rfl ?_
        refine sq.e ?_
        by_cases c11_1 : ((ofB q).2) = (0 : Int)
        · rw [decide_eq_true c11_1]
          refine AWp.condF rfl rfl ?_
          refine AWp.skip (AWp.seq (AWp.rowV (l := _) pok ?_))
          refine sq.c (v := .slice a_y (ofB q).1.length cp_y) rfl rfl rfl rfl ?_
          obtain ⟨hm2, hkl⟩ := of_ok c11_1 rfl
          have hkb := strB_len (keyB (ofB q).1)
          refine sq.t (v := .string (strB (keyB (ofB q).1))) rfl (CallsF.fn rfl (by kernel_rfl) rfl rfl) (fun hf => f28_may (ofB q).1 R_y hm2) hf rfl ?_
          intro n17 hn2 hf
          have hn := Nat.le_trans hn hn2
          refine sq.c (v := .string (strB (keyB (ofB q).1))) rfl rfl rfl rfl ?_
          refine sq.e (AWp.seq (AWp.rowV (l := _) pok ?_))
          refine sq.c (v := .string (strB (keyB (ofB q).1))) rfl rfl rfl rfl ?_
          refine sq.k rfl (CallsF.fn rfl (by kernel_rfl) rfl rfl) (f33_back (ofB q).1 hm2 (hld.keep hs)) ?_
          rintro _ h18 n19 ⟨a_w, cp_w, rfl, R_w⟩ s20 hn2 hf
          have R_w := R_w.is
          refine sq.w ?_
          have R_y := R_y.keep s20
          have hs := hs.trans s20
          have hn := Nat.le_trans hn hn2
          refine sq.c (v := .tuple #[.slice a_w (ofB q).1.length cp_w, .int .i64 (0)]) rfl rfl rfl rfl ?_
          refine sq.c (v := .slice a_w (ofB q).1.length cp_w) rfl rfl rfl rfl ?_
          refine sq.c (v := .int .i64 (0)) rfl rfl rfl rfl ?_
          refine sq.c (v := .slice a_w (ofB q).1.length cp_w) rfl rfl rfl rfl ?_
          refine sq.c (v := .int .i64 (0)) rfl rfl rfl rfl ?_
          refine sq.e (AWp.seq (AWp.rowV (l := _) pok ?_))
          refine sq.c (v := .slice a_y (ofB q).1.length cp_y) rfl rfl rfl rfl ?_
          refine sq.t (v := .bool true) rfl (CallsF.fn rfl (by kernel_rfl) rfl rfl) (fun hf => f24_may (ofB q).1 R_y hm2 (hld.keep hs)) hf rfl ?_
          intro n21 hn2 hf
          have hn := Nat.le_trans hn hn2
          refine sq.c (v := .bool true) rfl rfl rfl rfl ?_
          refine sq.c (v := .string (strB (keyB (ofB q).1))) (wantT (g := 2) (d := 98) rfl rfl rfl) rfl rfl rfl ?_
          refine sq.c (v := .int .i64 ((((strB (keyB (ofB q).1)).data.toList.length : Nat) : Int))) (wantT (g := 2) (d := 98) rfl rfl rfl) rfl (by kernel_rfl) rfl ?_
          refine sq.c (v := .string (q)) (wantT (g := 2) (d := 98) rfl rfl rfl) rfl rfl rfl ?_
          refine sq.c (v := .int .i64 ((((q).data.toList.length : Nat) : Int))) (wantT (g := 2) (d := 98) rfl rfl rfl) rfl (by kernel_rfl) rfl ?_
          refine sq.c (v := .bool (decide (((((strB (keyB (ofB q).1)).data.toList.length : Nat) : Int)) ≤ ((((q).data.toList.length : Nat) : Int))))) (wantT (g := 2) (d := 98) rfl rfl rfl) rfl rfl rfl ?_
          refine sq.c (v := .bool (decide (((((strB (keyB (ofB q).1)).data.toList.length : Nat) : Int)) ≤ ((((q).data.toList.length : Nat) : Int))))) rfl rfl rfl rfl ?_
          refine sq.c (v := .bool (decide (((((strB (keyB (ofB q).1)).data.toList.length : Nat) : Int)) ≤ ((((q).data.toList.length : Nat) : Int))))) rfl rfl rfl rfl ?_
          by_cases c15_7 : ((((strB (keyB (ofB q).1)).data.toList.length : Nat) : Int)) ≤ ((((q).data.toList.length : Nat) : Int))
          · rw [decide_eq_true c15_7]
            refine sq.c (v := .int .i64 (0)) (wantT (g := 9) (d := 105) rfl rfl rfl) rfl rfl rfl ?_
            refine sq.c (v := .bool true) (wantT (g := 9) (d := 105) rfl rfl rfl) rfl rfl rfl ?_
            refine sq.c (v := .bool true) rfl rfl rfl rfl ?_
            refine sq.c (v := .bool true) rfl rfl rfl rfl ?_
            refine sq.c (v := .slice a_w (ofB q).1.length cp_w) (wantT (g := 13) (d := 109) rfl rfl rfl) rfl rfl rfl ?_
            refine sq.c (v := .slice a_y (ofB q).1.length cp_y) (wantT (g := 13) (d := 109) rfl rfl rfl) rfl rfl rfl ?_
            refine sq.t (v := .bool true) (wantT (g := 13) (d := 109) rfl rfl rfl) (CallsF.fn rfl (by kernel_rfl) rfl rfl) (fun hf => f26_self (ofB q).1 R_w R_y hm2) hf rfl ?_
            intro n22 hn2 hf
            have hn := Nat.le_trans hn hn2
            refine sq.c (v := .bool true) rfl rfl rfl rfl ?_
            refine sq.c (v := .bool true) rfl rfl rfl rfl ?_
            refine sq.e ?_
            refine AWp.ret ?_
            refine ⟨rfl, [.bool true], rfl, .bool true, rfl, hs, hn, ?_⟩
            rfl
          · exfalso
            omega
        · rw [decide_eq_false c11_1]
          refine AWp.condT rfl rfl ?_
          refine AWp.seq (AWp.rowV (l := _) pok ?_)
          refine sq.c (v := .slice a_y (ofB q).1.length cp_y) rfl rfl rfl rfl ?_
          refine sq.c (v := .int .i64 ((((ofB q).1.length : Nat) : Int))) rfl rfl (by kernel_rfl) rfl ?_
          refine sq.c (v := .bool (decide (((((ofB q).1.length : Nat) : Int)) = (0 : Int)))) rfl rfl rfl rfl ?_
          refine sq.c (v := .bool (decide (((((ofB q).1.length : Nat) : Int)) = (0 : Int)))) rfl rfl rfl rfl ?_
          refine sq.e ?_
          refine AWp.ret ?_
          refine ⟨rfl, [.bool (decide (((((ofB q).1.length : Nat) : Int)) = (0 : Int)))], rfl, .bool (decide (((((ofB q).1.length : Nat) : Int)) = (0 : Int))), rfl, hs, hn, ?_⟩
          rw [decide_eq_true (by rw [of_bad c11_1]; rfl)]
      · rw [decide_eq_false c4_1]
        refine AWp.condF rfl rfl ?_
        refine AWp.skip (AWp.seq (AWp.rowV (l := _) pok ?_))
        refine sq.c (v := .string (q)) rfl rfl rfl rfl ?_
        refine sq.k rfl (CallsF.fn rfl (by kernel_rfl) rfl rfl) (f33_spec q (by omega) (hld.keep hs)) ?_
        rintro _ h23 n24 ⟨a_y, cp_y, rfl, R_y⟩ s25 hn2 hf
        have R_y := R_y.is
        refine sq.w ?_
        have hs := hs.trans s25
        have hn := Nat.le_trans hn hn2
        refine sq.c (v := .tuple #[.slice a_y (ofB q).1.length cp_y, .int .i64 ((ofB q).2)]) rfl rfl rfl rfl ?_
        refine sq.c (v := .slice a_y (ofB q).1.length cp_y) rfl rfl rfl rfl ?_
        refine sq.c (v := .int .i64 ((ofB q).2)) rfl rfl rfl rfl ?_
        refine sq.c (v := .slice a_y (ofB q).1.length cp_y) rfl rfl rfl rfl ?_
        refine sq.c (v := .int .i64 ((ofB q).2)) rfl rfl rfl rfl ?_
        refine sq.e (AWp.seq (AWp.seq (AWp.rowV (l := _) pok ?_)))
        refine sq.c (v := .int .i64 ((ofB q).2)) rfl rfl rfl rfl ?_
        refine sq.c (v := .bool (!decide (((ofB q).2) = (0 : Int)))) rfl rfl rfl rfl ?_
        refine sq.e ?_
        by_cases c11_1 : ((ofB q).2) = (0 : Int)
        · rw [decide_eq_true c11_1]
          refine AWp.condF rfl rfl ?_
          refine AWp.skip (AWp.seq (AWp.rowV (l := _) pok ?_))
          refine sq.c (v := .slice a_y (ofB q).1.length cp_y) rfl rfl rfl rfl ?_
          obtain ⟨hm2, hkl⟩ := of_ok c11_1 rfl
          have hkb := strB_len (keyB (ofB q).1)
          refine sq.t (v := .string (strB (keyB (ofB q).1))) rfl (CallsF.fn rfl (by kernel_rfl) rfl rfl) (fun hf => f28_may (ofB q).1 R_y hm2) hf rfl ?_
          intro n26 hn2 hf
          have hn := Nat.le_trans hn hn2
          refine sq.c (v := .string (strB (keyB (ofB q).1))) rfl rfl rfl rfl ?_
          refine sq.e (AWp.seq (AWp.rowV (l := _) pok ?_))
          refine sq.c (v := .string (strB (keyB (ofB q).1))) rfl rfl rfl rfl ?_
          refine sq.k rfl (CallsF.fn rfl (by kernel_rfl) rfl rfl) (f33_back (ofB q).1 hm2 (hld.keep hs)) ?_
          rintro _ h27 n28 ⟨a_w, cp_w, rfl, R_w⟩ s29 hn2 hf
          have R_w := R_w.is
          refine sq.w ?_
          have R_y := R_y.keep s29
          have hs := hs.trans s29
          have hn := Nat.le_trans hn hn2
          refine sq.c (v := .tuple #[.slice a_w (ofB q).1.length cp_w, .int .i64 (0)]) rfl rfl rfl rfl ?_
          refine sq.c (v := .slice a_w (ofB q).1.length cp_w) rfl rfl rfl rfl ?_
          refine sq.c (v := .int .i64 (0)) rfl rfl rfl rfl ?_
          refine sq.c (v := .slice a_w (ofB q).1.length cp_w) rfl rfl rfl rfl ?_
          refine sq.c (v := .int .i64 (0)) rfl rfl rfl rfl ?_
          refine sq.e (AWp.seq (AWp.rowV (l := _) pok ?_))
          refine sq.c (v := .slice a_y (ofB q).1.length cp_y) rfl rfl rfl rfl ?_
          refine sq.t (v := .bool true) rfl (CallsF.fn rfl (by kernel_rfl) rfl rfl) (fun hf => f24_may (ofB q).1 R_y hm2 (hld.keep hs)) hf rfl ?_
          intro n30 hn2 hf
          have hn := Nat.le_trans hn hn2
          refine sq.c (v := .bool true) rfl rfl rfl rfl ?_
          refine sq.c (v := .string (strB (keyB (ofB q).1))) (wantT (g := 2) (d := 98) rfl rfl rfl) rfl rfl rfl ?_
          refine sq.c (v := .int .i64 ((((strB (keyB (ofB q).1)).data.toList.length : Nat) : Int))) (wantT (g := 2) (d := 98) rfl rfl rfl) rfl (by kernel_rfl) rfl ?_
          refine sq.c (v := .string (q)) (wantT (g := 2) (d := 98) rfl rfl rfl) rfl rfl rfl ?_
          refine sq.c (v := .int .i64 ((((q).data.toList.length : Nat) : Int))) (wantT (g := 2) (d := 98) rfl rfl rfl) rfl (by kernel_rfl) rfl ?_
          refine sq.c (v := .bool (decide (((((strB (keyB (ofB q).1)).data.toList.length : Nat) : Int)) ≤ ((((q).data.toList.length : Nat) : Int))))) (wantT (g := 2) (d := 98) rfl rfl rfl) rfl rfl rfl ?_
          refine sq.c (v := .bool (decide (((((strB (keyB (ofB q).1)).data.toList.length : Nat) : Int)) ≤ ((((q).data.toList.length : Nat) : Int))))) rfl rfl rfl rfl ?_
          refine sq.c (v := .bool (decide (((((strB (keyB (ofB q).1)).data.toList.length : Nat) : Int)) ≤ ((((q).data.toList.length : Nat) : Int))))) rfl rfl rfl rfl ?_
          by_cases c15_7 : ((((strB (keyB (ofB q).1)).data.toList.length : Nat) : Int)) ≤ ((((q).data.toList.length : Nat) : Int))
          · rw [decide_eq_true c15_7]
            refine sq.c (v := .int .i64 (0)) (wantT (g := 9) (d := 105) rfl rfl rfl) rfl rfl rfl ?_
            refine sq.c (v := .bool true) (wantT (g := 9) (d := 105) rfl rfl rfl) rfl rfl rfl ?_
            refine sq.c (v := .bool true) rfl rfl rfl rfl ?_
            refine sq.c (v := .bool true) rfl rfl rfl rfl ?_
            refine sq.c (v := .slice a_w (ofB q).1.length cp_w) (wantT (g := 13) (d := 109) rfl rfl rfl) rfl rfl rfl ?_
            refine sq.c (v := .slice a_y (ofB q).1.length cp_y) (wantT (g := 13) (d := 109) rfl rfl rfl) rfl rfl rfl ?_
            refine sq.t (v := .bool true) (wantT (g := 13) (d := 109) rfl rfl rfl) (CallsF.fn rfl (by kernel_rfl) rfl rfl) (fun hf => f26_self (ofB q).1 R_w R_y hm2) hf rfl ?_
            intro n31 hn2 hf
            have hn := Nat.le_trans hn hn2
            refine sq.c (v := .bool true) rfl rfl rfl rfl ?_
            refine sq.c (v := .bool true) rfl rfl rfl rfl ?_
            refine sq.e ?_
            refine AWp.ret ?_
            refine ⟨rfl, [.bool true], rfl, .bool true, rfl, hs, hn, ?_⟩
            rfl
          · exfalso
            omega
        · rw [decide_eq_false c11_1]
          refine AWp.condT rfl rfl ?_
          refine AWp.seq (AWp.rowV (l := _) pok ?_)
          refine sq.c (v := .slice a_y (ofB q).1.length cp_y) rfl rfl rfl rfl ?_
          refine sq.c (v := .int .i64 ((((ofB q).1.length : Nat) : Int))) rfl rfl (by kernel_rfl) rfl ?_
          refine sq.c (v := .bool (decide (((((ofB q).1.length : Nat) : Int)) = (0 : Int)))) rfl rfl rfl rfl ?_
          refine sq.c (v := .bool (decide (((((ofB q).1.length : Nat) : Int)) = (0 : Int)))) rfl rfl rfl rfl ?_
          refine sq.e ?_
          refine AWp.ret ?_
          refine ⟨rfl, [.bool (decide (((((ofB q).1.length : Nat) : Int)) = (0 : Int)))], rfl, .bool (decide (((((ofB q).1.length : Nat) : Int)) = (0 : Int))), rfl, hs, hn, ?_⟩
          rw [decide_eq_true (by rw [of_bad c11_1]; rfl)]
end Go.Proofs.YtkpjfibpaojelaaGreatDoor
namespace Go.Proofs.YtkpjfibpaojelaaGreatDoor
open Go Go.Abs Go.ChangeShapes Go.RowKit Go.WideShapes
set_option maxRecDepth 100000
set_option maxHeartbeats 1000000
theorem und9 : Tryz.prog.underlying 9 = some .string := by kernel_rfl
theorem law_calls {W : World} {f : FuncId} {args args' : Array Value} {μ : Mu} {h : Heap} {n : Nat} (ro : ∀ b o, h.get b = some o → o.excl = false) (hr : Rel Tryz.prog μ h n W) (ha : ARel μ args args') (c : Tells Tryz.prog f args.toList h n (.bool true)) :
    Calls Tryz.prog f args' W fun e W' => e = .returned (.bool true) ∧ Below W.heap.size W W' :=
  calls_of_acall ro hr ha rfl (ACall.mono c fun _ h' _ _ _ ⟨e, _, _⟩ => ⟨h', Heap.sub_refl _, e⟩)
end Go.Proofs.YtkpjfibpaojelaaGreatDoor
