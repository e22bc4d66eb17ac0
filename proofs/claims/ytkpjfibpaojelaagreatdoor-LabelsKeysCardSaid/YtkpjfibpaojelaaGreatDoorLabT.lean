/- labels: Of, the program's and the document's. -/
import Derived.Test.YtkpjfibpaojelaaGreatDoorLabS2
import Derived.Test.YtkpjfibpaojelaaGreatDoorLabMayLaw
namespace Go.Proofs.YtkpjfibpaojelaaGreatDoor
open Go Go.Abs
set_option maxRecDepth 100000
set_option maxHeartbeats 4000000

theorem ex_pos {s : ByteArray} {p : Int} (h : exE (rdN s p) = 0) : 0 < exK (rdN s p) := by
  cases e : rdN s p with
  | error e' => rw [e] at h; exact (rdU_e _ _ _ e (by simpa [exE] using h)).elim
  | ok q => have := rdU_k _ _ _ _ e; show (0 : Int) < (q.2 : Nat); omega
/-- A text that is read moves the reader on, and is no longer than may be. -/
theorem txr_ok {s : ByteArray} {p e most : Int} (h0 : 0 ≤ p) (h1 : p ≤ (s.data.toList.length : Nat)) (hm : 0 ≤ most) (h : (txr s p e most).2.2 = 0) : p < (txr s p e most).2.1 ∧ (txr s p e most).2.1 ≤ (s.data.toList.length : Nat) ∧ e = 0 := by
  unfold txr at h ⊢
  by_cases he : e = 0
  · rw [if_pos he] at h ⊢
    by_cases hv : (vrd s p e most).2.2 = 0
    · rw [if_pos hv] at h ⊢
      by_cases hl : ((s.data.toList.length : Nat) : Int) - (vrd s p e most).2.1 < (vrd s p e most).1
      · rw [if_pos hl] at h; exact absurd h (show ¬ (8 : Int) = 0 by decide)
      · rw [if_neg hl]
        have h2 := vrd_at (s := s) (e := e) (most := most) h0 h1
        have h3 : p < (vrd s p e most).2.1 := by
          unfold vrd at hv ⊢
          rw [if_pos he] at hv ⊢
          by_cases hx : exE (rdN s p) = 0
          · rw [if_pos hx] at hv ⊢
            by_cases hy : most < exN (rdN s p)
            · rw [if_pos hy] at hv; exact absurd hv (show ¬ (40 : Int) = 0 by decide)
            · rw [if_neg hy]
              show p < exX (rdN s p) p
              rw [ex_good hx]
              have := ex_pos hx
              omega
          · rw [if_neg hx] at hv; exact absurd hv hx
        unfold raw
        rw [if_pos hv, if_neg hl]
        refine ⟨?_, ?_, he⟩
        · show p < (vrd s p e most).2.1 + (vrd s p e most).1; omega
        · show (vrd s p e most).2.1 + (vrd s p e most).1 ≤ _; omega
    · rw [if_neg hv] at h; exact absurd h hv
  · rw [if_neg he] at h; exact absurd h he
theorem sub_len (s : ByteArray) (l u : Int) : (sub s l u).data.toList.length ≤ s.data.toList.length := by
  simp only [sub, sliceS]
  rw [List.length_take, List.length_drop]
  omega
theorem txr_len (s : ByteArray) (p e most : Int) : (txr s p e most).1.data.toList.length ≤ s.data.toList.length := by
  unfold txr raw
  repeat' split
  all_goals first | exact Nat.zero_le _ | exact sub_len _ _ _
theorem txr_at {s : ByteArray} {p e most : Int} (h0 : 0 ≤ p) (h1 : p ≤ (s.data.toList.length : Nat)) (hm : 0 ≤ most) : 0 ≤ (txr s p e most).2.1 ∧ (txr s p e most).2.1 ≤ (s.data.toList.length : Nat) := by
  have h2 := vrd_at (s := s) (e := e) (most := most) h0 h1
  unfold txr raw
  repeat' split
  all_goals first | exact ⟨h0, h1⟩ | exact ⟨h2.1, h2.2.1⟩ | (constructor <;> simp only <;> omega)
/-- The labels that are read from a place on, behind those that were read; what is wrong. -/
def ofL (s : ByteArray) : Nat → Int → List Lab → List Lab × Int
  | 0, _, ls => (ls, 0)
  | f + 1, p, ls => if p < (s.data.toList.length : Nat) then
      (if (txr s (txr s p 0 64).2.1 (txr s p 0 64).2.2 256).2.2 = 0 then ofL s f (txr s (txr s p 0 64).2.1 (txr s p 0 64).2.2 256).2.1 (ls ++ [((txr s p 0 64).1, (txr s (txr s p 0 64).2.1 (txr s p 0 64).2.2 256).1)]) else ([], (txr s (txr s p 0 64).2.1 (txr s p 0 64).2.2 256).2.2)) else (ls, 0)
/-- The labels of a key; what is wrong. -/
def ofB (s : ByteArray) : List Lab × Int :=
  if (ofL s (s.data.toList.length + 1) 0 []).2 = 0 then (if mayB (ofL s (s.data.toList.length + 1) 0 []).1 = true then ((ofL s (s.data.toList.length + 1) 0 []).1, 0) else ([], 4)) else ([], (ofL s (s.data.toList.length + 1) 0 []).2)


/-- baton/bits.New -/
theorem f54_spec {h : Heap} {n : Nat} (s : ByteArray) :
    Makes Tryz.prog 54 [.string (s)] h n ([]) (fun v h2 _ => ∃ b ci, n ≤ b ∧ v = .pointer (some ⟨b, 0, none⟩) ∧ h2.get b = some (.cells [.string s, .int .i64 0, .int .i64 0] true ci)) := by
  refine Makes.free fun hf => ?_
  have hs : SubBut h h ([]) := .refl _ _
  have hn : n ≤ n := Nat.le_refl _
  have hf0 := hf
  refine Makes.of_bodyV (args := [.string (s)]) (vs := [.string (s), undef, undef, undef, undef, undef]) Tryz.func54 rfl rfl ?_
  refine AWp.seq ?_
  refine AWp.rowV (l := _) pok ?_
  refine sq.c (v := .pointer none) rfl rfl rfl rfl ?_
  refine sq.e ?_
  refine AWp.seq ?_
  refine AWp.rowV (l := _) pok ?_
  refine sq.c (v := .string (s)) rfl rfl rfl rfl ?_
  refine sq.c (v := .agg #[.string (s), .int .i64 (0), .int .i64 (0)]) rfl rfl (by kernel_rfl) rfl ?_
  have z_n : h.get n = none := hf0 _ hn
  refine sq.op rfl rfl (Does.box (cs := [.string (s), .int .i64 (0), .int .i64 (0)]) hf rfl rfl) ?_
  rintro _ h2 n3 ⟨rfl, hb1⟩ s4 hn2 hf
  refine sq.w ?_
  have hs := hs.trans s4
  have hn := Nat.le_trans hn hn2
  refine sq.c (v := .pointer (some ⟨n, 0, none⟩)) rfl rfl rfl rfl ?_
  refine sq.e ?_
  refine AWp.ret ?_
  -- end 1: 
  refine ⟨rfl, [.pointer (some ⟨n, 0, none⟩)], rfl, .pointer (some ⟨n, 0, none⟩), rfl, hs, hn, ?_⟩
  exact ⟨_, _, Nat.le_refl _, rfl, hb1⟩

/-- baton/labels.Of -/
theorem f33_spec {h : Heap} {n : Nat} (s : ByteArray) (hks : s.data.toList.length < 1000000000) (hld : Laid0 h) :
    Makes Tryz.prog 33 [.string (s)] h n ([]) (fun v h2 _ => ∃ a cp, v = .tuple #[.slice a (ofB s).1.length cp, .int .i64 (ofB s).2] ∧ OwnRow encLab 40 h h2 (.slice a (ofB s).1.length cp) (ofB s).1) := by
  refine Makes.free fun hf => ?_
  have hls : s.data.toList.length < 9223372036854775807 := by omega
  have hs : SubBut h h ([]) := .refl _ _
  have hn : n ≤ n := Nat.le_refl _
  have hf0 := hf
  refine Makes.of_bodyV (args := [.string (s)]) (vs := [.string (s), undef, undef, undef, undef, undef, undef, undef, undef, undef, undef, undef, undef, undef, undef, undef, undef, undef, undef, undef, undef, undef, undef, undef, undef, undef, undef, undef, undef, undef, undef, undef]) Tryz.func33 rfl rfl ?_
  refine AWp.seq ?_
  refine AWp.rowV (l := _) pok ?_
  refine sq.c (v := .slice none (0) (0)) rfl rfl rfl rfl ?_
  refine sq.c (v := .int .i64 (0)) rfl rfl rfl rfl ?_
  refine sq.e ?_
  refine AWp.seq ?_
  refine AWp.rowV (l := _) pok ?_
  refine sq.c (v := .string (s)) rfl rfl rfl rfl ?_
  refine sq.k rfl (CallsF.fn rfl (by kernel_rfl) rfl rfl) (f54_spec s) ?_
  rintro _ h1 n2 ⟨r_, ci_r, hr_, rfl, hb_r⟩ s3 hn2 hf
  have z_r_ : h.get r_ = none := hf0 _ (Nat.le_trans hn hr_)
  refine sq.w ?_
  have hs := hs.trans s3
  have hn := Nat.le_trans hn hn2
  refine sq.c (v := .pointer (some ⟨r_, 0, none⟩)) rfl rfl rfl rfl ?_
  refine sq.e ?_
  refine AWp.seq ?_
  refine AWp.rowV (l := _) pok ?_
  refine sq.c (v := .slice none (0) (0)) rfl rfl rfl rfl ?_
  refine sq.e ?_
  refine AWp.seq ?_
  refine AWp.block ?_
  refine AWp.loopV (fun d vs h5 n6 => ∃ (p : Int) (f : Nat) (ls : List Lab) (a_l : Option Addr) (cp_l : Nat), d = ((s.data.toList.length : Nat) - p + 1).toNat ∧ SubBut h h5 ([]) ∧ n ≤ n6 ∧ Free h5 n6 ∧ h5.get r_ = some (.cells [.string (s), .int .i64 (p), .int .i64 (0)] true ci_r) ∧ OwnRow encLab 40 h h5 (.slice a_l (ls).length cp_l) (ls) ∧ (∀ c ∈ blkOf (.slice a_l (ls).length cp_l), c ≠ r_) ∧ (0 ≤ p) ∧ (p ≤ (s.data.toList.length : Nat)) ∧ (((s.data.toList.length : Nat) : Int) - p < f) ∧ ((ls.length : Int) ≤ p) ∧ (∀ x ∈ ls, x.1.data.toList.length < 9223372036854775808 ∧ x.2.data.toList.length < 9223372036854775808) ∧ (ofL s (s.data.toList.length + 1) 0 [] = ofL s f p ls) ∧ ∃ y4 : Nat → Value, vs = [.string (s), undef, (y4 2), (y4 3), .pointer (some ⟨r_, 0, none⟩), .slice a_l (ls.length) cp_l, (y4 6), (y4 7), .string (s), .pointer (some ⟨r_, 0, none⟩), (y4 10), (y4 11), (y4 12), (y4 13), (y4 14), (y4 15), (y4 16), (y4 17), (y4 18), (y4 19), (y4 20), (y4 21), (y4 22), (y4 23), (y4 24), (y4 25), (y4 26), (y4 27), undef, undef, undef, undef]) (((s.data.toList.length : Nat) - (0 : Int) + 1).toNat) ⟨0, s.data.toList.length + 1, [], none, 0, rfl, hs, hn, hf, hb_r, OwnRow.nil, (by simp [blkOf]), (by omega), (by omega), (by omega), (by simp), (fun x hx => by cases hx), (rfl), getV [undef, undef, .slice none (0) (0), .int .i64 (0), undef, undef, undef, undef, undef, undef, undef, undef, undef, undef, undef, undef, undef, undef, undef, undef, undef, undef, undef, undef, undef, undef, undef, undef], rfl⟩ ?_
  rintro d vs h5 n6 ⟨p, f, ls, a_l, cp_l, rfl, hs, hn, hf, hb_r, R_l, d_l_r_, hp0, hp1, hff, hll, hsz, hq, y4, rfl⟩
  obtain ⟨g, rfl⟩ : ∃ g, f = g + 1 := ⟨f - 1, by omega⟩
  have hA := txr_at (s := s) (p := p) (e := 0) (most := 64) hp0 hp1 (by decide)
  refine AWp.seq ?_
  refine AWp.seq ?_
  refine AWp.rowV (l := _) pok ?_
  refine sq.c (v := .pointer (some ⟨r_, 0, none⟩)) rfl rfl rfl rfl ?_
  refine sq.t (v := .int .i64 (((s.data.toList.length : Nat) : Int) - p)) rfl (CallsF.fn rfl (by kernel_rfl) rfl rfl) (fun hf => f55_spec s p 0 hb_r hp0 hp1 hls) hf rfl ?_
  intro n7 hn2 hf
  have hn := Nat.le_trans hn hn2
  refine sq.c (v := .bool (decide ((0 : Int) < (((s.data.toList.length : Nat) : Int) - p)))) rfl rfl rfl rfl ?_
  refine sq.e ?_
  by_cases c3_2 : (0 : Int) < (((s.data.toList.length : Nat) : Int) - p)
  · rw [decide_eq_true c3_2]
    refine AWp.condT rfl rfl ?_
    refine AWp.skip ?_
    refine AWp.block ?_
    refine AWp.seq ?_
    refine AWp.rowV (l := _) pok ?_
    refine sq.c (v := .pointer (some ⟨r_, 0, none⟩)) rfl rfl rfl rfl ?_
    refine sq.k rfl (CallsF.fn rfl (by kernel_rfl) rfl rfl) (f56_spec s p 0 hb_r hp0 hp1 hls 64 (by decide) (by decide)) ?_
    rintro _ h9 n10 ⟨rfl, hb8⟩ s11 hn2 hf
    refine sq.w ?_
    have R_l := R_l.but s11 (fun c hc hm => d_l_r_ c hc (List.mem_singleton.1 hm))
    have hs := hs.fresh z_r_ s11
    have hn := Nat.le_trans hn hn2
    refine sq.c (v := .agg #[.string ((txr s p 0 64).1), .string (⟨#[]⟩)]) rfl rfl (by kernel_rfl) rfl ?_
    have e_r__n10 : r_ ≠ n10 := hf.ne hb8
    have d_l_n10 : ∀ c ∈ blkOf (.slice a_l (ls).length cp_l), c ≠ n10 := fun c hc e => R_l.ne' (hf _ (Nat.le_refl _)) c hc (List.mem_singleton.2 e)
    have z_n10 : h.get n10 = none := hf0 _ hn
    refine sq.op rfl rfl (Does.alloc (cs := [.string (⟨#[]⟩), .string (⟨#[]⟩)]) hf (z := .agg #[.string (⟨#[]⟩), .string (⟨#[]⟩)]) (by kernel_rfl) rfl) ?_
    rintro _ h13 n14 ⟨rfl, hb12⟩ s15 hn2 hf
    refine sq.w ?_
    have hb8 := s15.sub _ _ hb8
    have R_l := R_l.keep s15
    have hs := hs.trans s15
    have hn := Nat.le_trans hn hn2
    refine sq.op rfl rfl (Does.store (k := 2) (xs := [.string ((txr s p 0 64).1), .string (⟨#[]⟩)]) (cs' := [.string ((txr s p 0 64).1), .string (⟨#[]⟩)]) hf (by kernel_rfl) rfl rfl rfl hb12 rfl rfl (Nat.le_of_ble_eq_true rfl) rfl) ?_
    rintro _ h17 n18 ⟨rfl, hb16⟩ s19 hn2 hf
    refine sq.w0 ?_
    have hb8 := s19.get1 (e_r__n10) hb8
    have R_l := R_l.but s19 (fun c hc hm => d_l_n10 c hc (List.mem_singleton.1 hm))
    have hs := hs.fresh z_n10 s19
    have hn := Nat.le_trans hn hn2
    refine sq.e ?_
    refine AWp.seq ?_
    refine AWp.rowV (l := _) pok ?_
    refine sq.c (v := .pointer (some ⟨r_, 0, none⟩)) rfl rfl rfl rfl ?_
    refine sq.k rfl (CallsF.fn rfl (by kernel_rfl) rfl rfl) (f56_spec s _ _ hb8 hA.1 hA.2 hls 256 (by decide) (by decide)) ?_
    rintro _ h21 n22 ⟨rfl, hb20⟩ s23 hn2 hf
    refine sq.w ?_
    have R_l := R_l.but s23 (fun c hc hm => d_l_r_ c hc (List.mem_singleton.1 hm))
    have hb16 := s23.get1 (Ne.symm e_r__n10) hb16
    have hs := hs.fresh z_r_ s23
    have hn := Nat.le_trans hn hn2
    refine sq.c (v := .pointer (some ⟨n10, 1, none⟩)) rfl rfl (by kernel_rfl) rfl ?_
    refine sq.op rfl rfl (Does.store (k := 1) (xs := [.string ((txr s (txr s p 0 64).2.1 (txr s p 0 64).2.2 256).1)]) (cs' := [.string ((txr s p 0 64).1), .string ((txr s (txr s p 0 64).2.1 (txr s p 0 64).2.2 256).1)]) hf (by kernel_rfl) rfl rfl rfl hb16 rfl rfl (Nat.le_of_ble_eq_true rfl) rfl) ?_
    rintro _ h25 n26 ⟨rfl, hb24⟩ s27 hn2 hf
    refine sq.w0 ?_
    have hb20 := s27.get1 (e_r__n10) hb20
    have R_l := R_l.but s27 (fun c hc hm => d_l_n10 c hc (List.mem_singleton.1 hm))
    have hs := hs.fresh z_n10 s27
    have hn := Nat.le_trans hn hn2
    refine sq.e ?_
    refine AWp.seq ?_
    refine AWp.seq ?_
    refine AWp.rowV (l := _) pok ?_
    refine sq.c (v := .pointer (some ⟨r_, 0, none⟩)) rfl rfl rfl rfl ?_
    refine sq.t (v := .int .i64 ((txr s (txr s p 0 64).2.1 (txr s p 0 64).2.2 256).2.2)) rfl (CallsF.fn rfl (by kernel_rfl) rfl rfl) (fun hf => f57_spec s _ _ hb20) hf rfl ?_
    intro n28 hn2 hf
    have hn := Nat.le_trans hn hn2
    refine sq.c (v := .int .i64 ((txr s (txr s p 0 64).2.1 (txr s p 0 64).2.2 256).2.2)) rfl rfl rfl rfl ?_
    refine sq.e ?_
    refine AWp.seq ?_
    refine AWp.rowV (l := _) pok ?_
    refine sq.c (v := .int .i64 ((txr s (txr s p 0 64).2.1 (txr s p 0 64).2.2 256).2.2)) rfl rfl rfl rfl ?_
    refine sq.c (v := .bool (!decide (((txr s (txr s p 0 64).2.1 (txr s p 0 64).2.2 256).2.2) = (0 : Int)))) rfl rfl rfl rfl ?_
    refine sq.e ?_
    by_cases c7_1 : ((txr s (txr s p 0 64).2.1 (txr s p 0 64).2.2 256).2.2) = (0 : Int)
    · rw [decide_eq_true c7_1]
      refine AWp.condF rfl rfl ?_
      refine AWp.skip ?_
      refine AWp.rowV (l := _) pok ?_
      refine sq.c (v := .slice a_l (ls.length) cp_l) rfl rfl rfl rfl ?_
      refine sq.c (v := .agg #[.string ((txr s p 0 64).1), .string ((txr s (txr s p 0 64).2.1 (txr s p 0 64).2.2 256).1)]) rfl rfl (ldA (P := Tryz.prog) (t := 40) (p := 0) (k := 2) (xs := [.string ((txr s p 0 64).1), .string ((txr s (txr s p 0 64).2.1 (txr s p 0 64).2.2 256).1)]) (by kernel_rfl) (by kernel_rfl) hb24 rfl (Nat.le_of_ble_eq_true rfl)) rfl ?_
      have e_r__n28 : r_ ≠ n28 := hf.ne hb20
      have e_n10_n28 : n10 ≠ n28 := hf.ne hb24
      have d_l_n28 : ∀ c ∈ blkOf (.slice a_l (ls).length cp_l), c ≠ n28 := fun c hc e => R_l.ne' (hf _ (Nat.le_refl _)) c hc (List.mem_singleton.2 e)
      have z_n28 : h.get n28 = none := hf0 _ hn
      refine sq.op rfl rfl (Does.build (e := 40) (cs := [.string ((txr s p 0 64).1), .string ((txr s (txr s p 0 64).2.1 (txr s p 0 64).2.2 256).1)]) hf (fun _ _ => by kernel_rfl)) ?_
      rintro _ h30 n31 ⟨rfl, hb29⟩ s32 hn2 hf
      refine sq.w ?_
      have hb20 := s32.sub _ _ hb20
      have R_l := R_l.keep s32
      have hb24 := s32.sub _ _ hb24
      have hs := hs.trans s32
      have hn := Nat.le_trans hn hn2
      have hz0 : h.get n31 = none := hf0 _ hn
      have hfo := hf
      refine sq.op rfl rfl (Does.append (E := encLab) (xs := ls) (ys := [((txr s p 0 64).1, (txr s (txr s p 0 64).2.1 (txr s p 0 64).2.2 256).1)]) appLab ⟨.slice 40, by kernel_rfl, fun _ q => by cases q⟩ hf hs R_l (IsRow.of (E := encLab) (xs := [((txr s p 0 64).1, (txr s (txr s p 0 64).2.1 (txr s p 0 64).2.2 256).1)]) (cap := 1) hb29 (Nat.le_refl _)) rfl rfl (by simp only [List.length_cons, List.length_nil]; omega) (by simp only [List.length_cons, List.length_nil]; omega) hz0) ?_
      rintro v36 h33 n34 ⟨R_l, hs, hB37⟩ s35 hn2 hf
      refine sq.w ?_
      have dn_l_r_ : ∀ c ∈ blkOf v36, c ≠ r_ := fun c hc => (hB37 c hc).elim (fun q => d_l_r_ c q) (fun q => by rw [q]; exact (hfo.ne hb20).symm)
      have dn_l_n10 : ∀ c ∈ blkOf v36, c ≠ n10 := fun c hc => (hB37 c hc).elim (fun q => d_l_n10 c q) (fun q => by rw [q]; exact (hfo.ne hb24).symm)
      have dn_l_n28 : ∀ c ∈ blkOf v36, c ≠ n28 := fun c hc => (hB37 c hc).elim (fun q => d_l_n28 c q) (fun q => by rw [q]; exact (hfo.ne hb29).symm)
      have hb20 := s35 _ _ (fun hm => d_l_r_ _ hm rfl) hb20
      have hb24 := s35 _ _ (fun hm => d_l_n10 _ hm rfl) hb24
      have hb29 := s35 _ _ (fun hm => d_l_n28 _ hm rfl) hb29
      have d_l_r_ := dn_l_r_
      have d_l_n10 := dn_l_n10
      have d_l_n28 := dn_l_n28
      obtain ⟨a38, cp39, rfl⟩ := R_l.slice
      have hn := Nat.le_trans hn hn2
      refine sq.c (v := .slice a38 (ls ++ [((txr s p 0 64).1, (txr s (txr s p 0 64).2.1 (txr s p 0 64).2.2 256).1)]).length cp39) rfl rfl rfl rfl ?_
      refine sq.e ?_
      rw [c7_1] at hb20
      have hB2 := txr_ok hA.1 hA.2 (by decide) c7_1
      have hA2 := txr_ok hp0 hp1 (by decide) hB2.2.2
      have hla := txr_len s p 0 64
      have hlb := txr_len s (txr s p 0 64).2.1 (txr s p 0 64).2.2 256
      refine ⟨_, _, rfl, by omega, (txr s (txr s p 0 64).2.1 (txr s p 0 64).2.2 256).2.1, g, ls ++ [((txr s p 0 64).1, (txr s (txr s p 0 64).2.1 (txr s p 0 64).2.2 256).1)], a38, cp39, rfl, hs, hn, hf, hb20, R_l, d_l_r_, (by omega), (by omega), (by omega), (by rw [List.length_append, List.length_singleton]; omega), (by intro x hx; rcases List.mem_append.1 hx with q | q; exact hsz x q; rw [List.mem_singleton] at q; subst q; exact ⟨Nat.lt_of_le_of_lt hla (by omega), Nat.lt_of_le_of_lt hlb (by omega)⟩), (by rw [hq, ofL, if_pos (by omega), if_pos c7_1]), getV [undef, undef, (y4 2), (y4 3), undef, undef, .pointer (some ⟨n10, 0, none⟩), .int .i64 ((txr s (txr s p 0 64).2.1 (txr s p 0 64).2.2 256).2.2), undef, undef, .pointer (some ⟨r_, 0, none⟩), .int .i64 (((s.data.toList.length : Nat) : Int) - p), .bool true, .pointer (some ⟨r_, 0, none⟩), .string ((txr s p 0 64).1), .agg #[.string ((txr s p 0 64).1), .string (⟨#[]⟩)], .pointer (some ⟨r_, 0, none⟩), .string ((txr s (txr s p 0 64).2.1 (txr s p 0 64).2.2 256).1), .pointer (some ⟨n10, 1, none⟩), .pointer (some ⟨r_, 0, none⟩), .int .i64 ((txr s (txr s p 0 64).2.1 (txr s p 0 64).2.2 256).2.2), .int .i64 ((txr s (txr s p 0 64).2.1 (txr s p 0 64).2.2 256).2.2), .bool false, (y4 23), .slice a_l (ls.length) cp_l, .agg #[.string ((txr s p 0 64).1), .string ((txr s (txr s p 0 64).2.1 (txr s p 0 64).2.2 256).1)], .slice (some ⟨n28, 0, none⟩) (1) (1), .slice a38 (ls ++ [((txr s p 0 64).1, (txr s (txr s p 0 64).2.1 (txr s p 0 64).2.2 256).1)]).length cp39], rfl⟩
    · rw [decide_eq_false c7_1]
      refine AWp.condT rfl rfl ?_
      refine AWp.seq ?_
      refine AWp.rowV (l := _) pok ?_
      refine sq.c (v := .int .i64 ((txr s (txr s p 0 64).2.1 (txr s p 0 64).2.2 256).2.2)) rfl rfl rfl rfl ?_
      refine sq.c (v := .slice none (0) (0)) rfl rfl rfl rfl ?_
      refine sq.c (v := .int .i64 ((txr s (txr s p 0 64).2.1 (txr s p 0 64).2.2 256).2.2)) rfl rfl rfl rfl ?_
      refine sq.e ?_
      refine AWp.ret ?_
      -- end 1: L3 c3_2 ¬c7_1
      refine ⟨rfl, [.slice none (0) (0), .int .i64 ((txr s (txr s p 0 64).2.1 (txr s p 0 64).2.2 256).2.2)], rfl, .tuple #[.slice none (0) (0), .int .i64 ((txr s (txr s p 0 64).2.1 (txr s p 0 64).2.2 256).2.2)], rfl, hs, hn, ?_⟩
      have hofl : ofL s (s.data.toList.length + 1) 0 [] = ([], (txr s (txr s p 0 64).2.1 (txr s p 0 64).2.2 256).2.2) := by rw [hq, ofL, if_pos (by omega), if_neg c7_1]
      have ho : ofB s = ([], (txr s (txr s p 0 64).2.1 (txr s p 0 64).2.2 256).2.2) := by
        unfold ofB
        rw [hofl, if_neg c7_1]
      rw [ho]
      exact ⟨none, 0, rfl, OwnRow.nil⟩
  · rw [decide_eq_false c3_2]
    refine AWp.condF rfl rfl ?_
    refine AWp.exit ?_
    refine AWp.seq ?_
    refine AWp.seq ?_
    refine AWp.rowV (l := _) pok ?_
    refine sq.c (v := .slice a_l (ls.length) cp_l) rfl rfl rfl rfl ?_
    refine sq.t (v := .bool (mayB ls)) rfl (CallsF.fn rfl (by kernel_rfl) rfl rfl) (fun hf => f24_spec ls R_l.is (by omega) hsz (hld.keep hs)) hf rfl ?_
    intro n40 hn2 hf
    have hn := Nat.le_trans hn hn2
    rcases Bool.eq_false_or_eq_true (mayB ls) with c_m | c_m
    · rw [c_m]
      refine sq.c (v := .bool false) rfl rfl rfl rfl ?_
      refine sq.e ?_
      refine AWp.condF rfl rfl ?_
      refine AWp.skip ?_
      refine AWp.seq ?_
      refine AWp.rowV (l := _) pok ?_
      refine sq.c (v := .slice a_l (ls.length) cp_l) rfl rfl rfl rfl ?_
      refine sq.c (v := .slice a_l (ls.length) cp_l) rfl rfl rfl rfl ?_
      refine sq.c (v := .int .i64 (0)) rfl rfl rfl rfl ?_
      refine sq.e ?_
      refine AWp.ret ?_
      -- end 2: L3 ¬c3_2 c_m
      refine ⟨rfl, [.slice a_l (ls.length) cp_l, .int .i64 (0)], rfl, .tuple #[.slice a_l (ls.length) cp_l, .int .i64 (0)], rfl, hs, hn, ?_⟩
      have hofl : ofL s (s.data.toList.length + 1) 0 [] = (ls, 0) := by rw [hq, ofL, if_neg (by omega)]
      have ho : ofB s = (ls, 0) := by
        unfold ofB
        rw [hofl, if_pos rfl, if_pos c_m]
      rw [ho]
      exact ⟨_, _, rfl, R_l⟩
    · rw [c_m]
      refine sq.c (v := .bool true) rfl rfl rfl rfl ?_
      refine sq.e ?_
      refine AWp.condT rfl rfl ?_
      refine AWp.seq ?_
      refine AWp.rowV (l := _) pok ?_
      refine sq.c (v := .slice none (0) (0)) rfl rfl rfl rfl ?_
      refine sq.c (v := .int .i64 (4)) rfl rfl rfl rfl ?_
      refine sq.e ?_
      refine AWp.ret ?_
      -- end 3: L3 ¬c3_2 ¬c_m
      refine ⟨rfl, [.slice none (0) (0), .int .i64 (4)], rfl, .tuple #[.slice none (0) (0), .int .i64 (4)], rfl, hs, hn, ?_⟩
      have hofl : ofL s (s.data.toList.length + 1) 0 [] = (ls, 0) := by rw [hq, ofL, if_neg (by omega)]
      have ho : ofB s = ([], 4) := by
        unfold ofB
        rw [hofl, if_pos rfl, if_neg (by rw [c_m]; decide)]
      rw [ho]
      exact ⟨none, 0, rfl, OwnRow.nil⟩

/-- baton/batonref05.Of -/
theorem f35_spec {h : Heap} {n : Nat} (s : ByteArray) (hks : s.data.toList.length < 1000000000) :
    Makes Tryz.prog 35 [.string (s)] h n ([]) (fun v h2 _ => ∃ a cp, v = .tuple #[.slice a (ofB s).1.length cp, .int .i64 (ofB s).2] ∧ OwnRow encLab 40 h h2 (.slice a (ofB s).1.length cp) (ofB s).1) := by
  refine Makes.free fun hf => ?_
  have hls : s.data.toList.length < 9223372036854775807 := by omega
  have hs : SubBut h h ([]) := .refl _ _
  have hn : n ≤ n := Nat.le_refl _
  have hf0 := hf
  refine Makes.of_bodyV (args := [.string (s)]) (vs := [.string (s), undef, undef, undef, undef, undef, undef, undef, undef, undef, undef, undef, undef, undef, undef, undef, undef, undef, undef, undef, undef, undef, undef, undef, undef, undef, undef, undef, undef, undef, undef, undef, undef, undef, undef, undef, undef, undef, undef, undef, undef]) Tryz.func35 rfl rfl ?_
  refine AWp.seq ?_
  refine AWp.rowV (l := _) pok ?_
  refine sq.c (v := .slice none (0) (0)) rfl rfl rfl rfl ?_
  refine sq.c (v := .int .i64 (0)) rfl rfl rfl rfl ?_
  refine sq.e ?_
  refine AWp.seq ?_
  refine AWp.rowV (l := _) pok ?_
  refine sq.c (v := .string (s)) rfl rfl rfl rfl ?_
  refine sq.c (v := .agg #[.string (s), .int .i64 (0), .int .i64 (0)]) rfl rfl (by kernel_rfl) rfl ?_
  have z_n : h.get n = none := hf0 _ hn
  refine sq.op rfl rfl (Does.box (cs := [.string (s), .int .i64 (0), .int .i64 (0)]) hf rfl rfl) ?_
  rintro _ h2 n3 ⟨rfl, hb1⟩ s4 hn2 hf
  refine sq.w ?_
  have hs := hs.trans s4
  have hn := Nat.le_trans hn hn2
  refine sq.c (v := .pointer (some ⟨n, 0, none⟩)) rfl rfl rfl rfl ?_
  refine sq.e ?_
  refine AWp.seq ?_
  refine AWp.rowV (l := _) pok ?_
  refine sq.c (v := .slice none (0) (0)) rfl rfl rfl rfl ?_
  refine sq.e ?_
  refine AWp.seq ?_
  refine AWp.block ?_
  refine AWp.loopV (fun d vs h6 n7 => ∃ (p : Int) (f : Nat) (ls : List Lab) (a_l : Option Addr) (cp_l : Nat), d = ((s.data.toList.length : Nat) - p + 1).toNat ∧ SubBut h h6 ([]) ∧ n ≤ n7 ∧ Free h6 n7 ∧ h6.get n = some (.cells [.string (s), .int .i64 (p), .int .i64 (0)] true ⟨69, 0, true⟩) ∧ OwnRow encLab 40 h h6 (.slice a_l (ls).length cp_l) (ls) ∧ (∀ c ∈ blkOf (.slice a_l (ls).length cp_l), c ≠ n) ∧ (0 ≤ p) ∧ (p ≤ (s.data.toList.length : Nat)) ∧ (((s.data.toList.length : Nat) : Int) - p < f) ∧ ((ls.length : Int) ≤ p) ∧ (∀ x ∈ ls, x.1.data.toList.length < 9223372036854775808 ∧ x.2.data.toList.length < 9223372036854775808) ∧ (ofL s (s.data.toList.length + 1) 0 [] = ofL s f p ls) ∧ ∃ y5 : Nat → Value, vs = [.string (s), undef, (y5 2), (y5 3), .pointer (some ⟨n, 0, none⟩), .slice a_l (ls.length) cp_l, (y5 6), (y5 7), .string (s), .agg #[.string (s), .int .i64 (0), .int .i64 (0)], .pointer (some ⟨n, 0, none⟩), (y5 11), (y5 12), (y5 13), (y5 14), (y5 15), (y5 16), (y5 17), (y5 18), (y5 19), (y5 20), (y5 21), (y5 22), (y5 23), (y5 24), (y5 25), (y5 26), (y5 27), (y5 28), (y5 29), (y5 30), (y5 31), (y5 32), (y5 33), (y5 34), (y5 35), (y5 36), undef, undef, undef, undef]) (((s.data.toList.length : Nat) - (0 : Int) + 1).toNat) ⟨0, s.data.toList.length + 1, [], none, 0, rfl, hs, hn, hf, hb1, OwnRow.nil, (by simp [blkOf]), (by omega), (by omega), (by omega), (by simp), (fun x hx => by cases hx), (rfl), getV [undef, undef, .slice none (0) (0), .int .i64 (0), undef, undef, undef, undef, undef, undef, undef, undef, undef, undef, undef, undef, undef, undef, undef, undef, undef, undef, undef, undef, undef, undef, undef, undef, undef, undef, undef, undef, undef, undef, undef, undef, undef], rfl⟩ ?_
  rintro d vs h6 n7 ⟨p, f, ls, a_l, cp_l, rfl, hs, hn, hf, hb1, R_l, d_l_n, hp0, hp1, hff, hll, hsz, hq, y5, rfl⟩
  obtain ⟨g, rfl⟩ : ∃ g, f = g + 1 := ⟨f - 1, by omega⟩
  have hA := txr_at (s := s) (p := p) (e := 0) (most := 64) hp0 hp1 (by decide)
  refine AWp.seq ?_
  refine AWp.seq ?_
  refine AWp.rowV (l := _) pok ?_
  refine sq.c (v := .pointer (some ⟨n, 0, none⟩)) rfl rfl rfl rfl ?_
  refine sq.c (v := .pointer (some ⟨n, 0, none⟩)) rfl rfl rfl rfl ?_
  refine sq.c (v := .pointer (some ⟨n, 1, none⟩)) rfl rfl (by kernel_rfl) rfl ?_
  refine sq.c (v := .int .i64 (p)) rfl rfl (ld1 (P := Tryz.prog) (t := 3) (p := 1) (v := .int .i64 (p)) (by kernel_rfl) (by kernel_rfl) hb1 rfl) rfl ?_
  refine sq.c (v := .string (s)) rfl rfl rfl rfl ?_
  refine sq.c (v := .int .i64 ((((s).data.toList.length : Nat) : Int))) rfl rfl (by kernel_rfl) rfl ?_
  refine sq.c (v := .bool (decide (p < ((((s).data.toList.length : Nat) : Int))))) rfl rfl rfl rfl ?_
  refine sq.e ?_
  by_cases c3_6 : p < ((((s).data.toList.length : Nat) : Int))
  · rw [decide_eq_true c3_6]
    refine AWp.condT rfl rfl ?_
    refine AWp.skip ?_
    refine AWp.block ?_
    refine AWp.seq ?_
    refine AWp.rowV (l := _) pok ?_
    refine sq.c (v := .pointer (some ⟨n, 0, none⟩)) rfl rfl rfl rfl ?_
    refine sq.k rfl (CallsF.fn rfl (by kernel_rfl) rfl rfl) (f59_spec s p 0 hb1 hp0 hp1 hls 64 (by decide) (by decide)) ?_
    rintro _ h9 n10 ⟨rfl, hb8⟩ s11 hn2 hf
    refine sq.w ?_
    have R_l := R_l.but s11 (fun c hc hm => d_l_n c hc (List.mem_singleton.1 hm))
    have hs := hs.fresh z_n s11
    have hn := Nat.le_trans hn hn2
    refine sq.c (v := .string ((txr s p 0 64).1)) rfl rfl rfl rfl ?_
    refine sq.e ?_
    refine AWp.seq ?_
    refine AWp.rowV (l := _) pok ?_
    refine sq.c (v := .pointer (some ⟨n, 0, none⟩)) rfl rfl rfl rfl ?_
    refine sq.k rfl (CallsF.fn rfl (by kernel_rfl) rfl rfl) (f59_spec s _ _ hb8 hA.1 hA.2 hls 256 (by decide) (by decide)) ?_
    rintro _ h13 n14 ⟨rfl, hb12⟩ s15 hn2 hf
    refine sq.w ?_
    have R_l := R_l.but s15 (fun c hc hm => d_l_n c hc (List.mem_singleton.1 hm))
    have hs := hs.fresh z_n s15
    have hn := Nat.le_trans hn hn2
    refine sq.c (v := .string ((txr s (txr s p 0 64).2.1 (txr s p 0 64).2.2 256).1)) rfl rfl rfl rfl ?_
    refine sq.e ?_
    refine AWp.seq ?_
    refine AWp.seq ?_
    refine AWp.rowV (l := _) pok ?_
    refine sq.c (v := .pointer (some ⟨n, 0, none⟩)) rfl rfl rfl rfl ?_
    refine sq.c (v := .pointer (some ⟨n, 0, none⟩)) rfl rfl rfl rfl ?_
    refine sq.c (v := .pointer (some ⟨n, 2, none⟩)) rfl rfl (by kernel_rfl) rfl ?_
    refine sq.c (v := .int .i64 ((txr s (txr s p 0 64).2.1 (txr s p 0 64).2.2 256).2.2)) rfl rfl (ld1 (P := Tryz.prog) (t := 26) (p := 2) (v := .int .i64 ((txr s (txr s p 0 64).2.1 (txr s p 0 64).2.2 256).2.2)) (by kernel_rfl) (by kernel_rfl) hb12 rfl) rfl ?_
    refine sq.c (v := .bool (!decide (((txr s (txr s p 0 64).2.1 (txr s p 0 64).2.2 256).2.2) = (0 : Int)))) rfl rfl rfl rfl ?_
    refine sq.e ?_
    by_cases c6_4 : ((txr s (txr s p 0 64).2.1 (txr s p 0 64).2.2 256).2.2) = (0 : Int)
    · rw [decide_eq_true c6_4]
      refine AWp.condF rfl rfl ?_
      refine AWp.skip ?_
      refine AWp.rowV (l := _) pok ?_
      refine sq.c (v := .slice a_l (ls.length) cp_l) rfl rfl rfl rfl ?_
      refine sq.c (v := .string ((txr s p 0 64).1)) rfl rfl rfl rfl ?_
      refine sq.c (v := .string ((txr s (txr s p 0 64).2.1 (txr s p 0 64).2.2 256).1)) rfl rfl rfl rfl ?_
      refine sq.c (v := .agg #[.string ((txr s p 0 64).1), .string ((txr s (txr s p 0 64).2.1 (txr s p 0 64).2.2 256).1)]) rfl rfl (by kernel_rfl) rfl ?_
      have e_n_n14 : n ≠ n14 := hf.ne hb12
      have d_l_n14 : ∀ c ∈ blkOf (.slice a_l (ls).length cp_l), c ≠ n14 := fun c hc e => R_l.ne' (hf _ (Nat.le_refl _)) c hc (List.mem_singleton.2 e)
      have z_n14 : h.get n14 = none := hf0 _ hn
      refine sq.op rfl rfl (Does.build (e := 40) (cs := [.string ((txr s p 0 64).1), .string ((txr s (txr s p 0 64).2.1 (txr s p 0 64).2.2 256).1)]) hf (fun _ _ => by kernel_rfl)) ?_
      rintro _ h17 n18 ⟨rfl, hb16⟩ s19 hn2 hf
      refine sq.w ?_
      have hb12 := s19.sub _ _ hb12
      have R_l := R_l.keep s19
      have hs := hs.trans s19
      have hn := Nat.le_trans hn hn2
      have hz0 : h.get n18 = none := hf0 _ hn
      have hfo := hf
      refine sq.op rfl rfl (Does.append (E := encLab) (xs := ls) (ys := [((txr s p 0 64).1, (txr s (txr s p 0 64).2.1 (txr s p 0 64).2.2 256).1)]) appLab ⟨.slice 40, by kernel_rfl, fun _ q => by cases q⟩ hf hs R_l (IsRow.of (E := encLab) (xs := [((txr s p 0 64).1, (txr s (txr s p 0 64).2.1 (txr s p 0 64).2.2 256).1)]) (cap := 1) hb16 (Nat.le_refl _)) rfl rfl (by simp only [List.length_cons, List.length_nil]; omega) (by simp only [List.length_cons, List.length_nil]; omega) hz0) ?_
      rintro v23 h20 n21 ⟨R_l, hs, hB24⟩ s22 hn2 hf
      refine sq.w ?_
      have dn_l_n : ∀ c ∈ blkOf v23, c ≠ n := fun c hc => (hB24 c hc).elim (fun q => d_l_n c q) (fun q => by rw [q]; exact (hfo.ne hb12).symm)
      have dn_l_n14 : ∀ c ∈ blkOf v23, c ≠ n14 := fun c hc => (hB24 c hc).elim (fun q => d_l_n14 c q) (fun q => by rw [q]; exact (hfo.ne hb16).symm)
      have hb12 := s22 _ _ (fun hm => d_l_n _ hm rfl) hb12
      have hb16 := s22 _ _ (fun hm => d_l_n14 _ hm rfl) hb16
      have d_l_n := dn_l_n
      have d_l_n14 := dn_l_n14
      obtain ⟨a25, cp26, rfl⟩ := R_l.slice
      have hn := Nat.le_trans hn hn2
      refine sq.c (v := .slice a25 (ls ++ [((txr s p 0 64).1, (txr s (txr s p 0 64).2.1 (txr s p 0 64).2.2 256).1)]).length cp26) rfl rfl rfl rfl ?_
      refine sq.e ?_
      rw [c6_4] at hb12
      have hB2 := txr_ok hA.1 hA.2 (by decide) c6_4
      have hA2 := txr_ok hp0 hp1 (by decide) hB2.2.2
      have hla := txr_len s p 0 64
      have hlb := txr_len s (txr s p 0 64).2.1 (txr s p 0 64).2.2 256
      refine ⟨_, _, rfl, by omega, (txr s (txr s p 0 64).2.1 (txr s p 0 64).2.2 256).2.1, g, ls ++ [((txr s p 0 64).1, (txr s (txr s p 0 64).2.1 (txr s p 0 64).2.2 256).1)], a25, cp26, rfl, hs, hn, hf, hb12, R_l, d_l_n, (by omega), (by omega), (by omega), (by rw [List.length_append, List.length_singleton]; omega), (by intro x hx; rcases List.mem_append.1 hx with q | q; exact hsz x q; rw [List.mem_singleton] at q; subst q; exact ⟨Nat.lt_of_le_of_lt hla (by omega), Nat.lt_of_le_of_lt hlb (by omega)⟩), (by rw [hq, ofL, if_pos (by omega), if_pos c6_4]), getV [undef, undef, (y5 2), (y5 3), undef, undef, .string ((txr s p 0 64).1), .string ((txr s (txr s p 0 64).2.1 (txr s p 0 64).2.2 256).1), undef, undef, undef, .pointer (some ⟨n, 0, none⟩), .pointer (some ⟨n, 0, none⟩), .pointer (some ⟨n, 1, none⟩), .int .i64 (p), .string (s), .int .i64 ((((s).data.toList.length : Nat) : Int)), .bool true, .pointer (some ⟨n, 0, none⟩), .string ((txr s p 0 64).1), .pointer (some ⟨n, 0, none⟩), .string ((txr s (txr s p 0 64).2.1 (txr s p 0 64).2.2 256).1), .pointer (some ⟨n, 0, none⟩), .pointer (some ⟨n, 0, none⟩), .pointer (some ⟨n, 2, none⟩), .int .i64 ((txr s (txr s p 0 64).2.1 (txr s p 0 64).2.2 256).2.2), .bool false, (y5 27), (y5 28), (y5 29), (y5 30), .slice a_l (ls.length) cp_l, .string ((txr s p 0 64).1), .string ((txr s (txr s p 0 64).2.1 (txr s p 0 64).2.2 256).1), .agg #[.string ((txr s p 0 64).1), .string ((txr s (txr s p 0 64).2.1 (txr s p 0 64).2.2 256).1)], .slice (some ⟨n14, 0, none⟩) (1) (1), .slice a25 (ls ++ [((txr s p 0 64).1, (txr s (txr s p 0 64).2.1 (txr s p 0 64).2.2 256).1)]).length cp26], rfl⟩
    · rw [decide_eq_false c6_4]
      refine AWp.condT rfl rfl ?_
      refine AWp.seq ?_
      refine AWp.anyV pok [] [0, 1, 2, 3, 4, 5] (by kernel_rfl) (by kernel_rfl) rfl (fun x fr fr' h n hd _ q => ⟨hd ▸ q.1, q.2⟩) ?_
      refine dq.c (v := .pointer (some ⟨n, 0, none⟩)) rfl (by kernel_rfl) rfl rfl rfl rfl ?_
      refine dq.c (v := .pointer (some ⟨n, 0, none⟩)) rfl (by kernel_rfl) rfl rfl rfl rfl ?_
      refine dq.c (v := .pointer (some ⟨n, 2, none⟩)) rfl (by kernel_rfl) rfl rfl (by kernel_rfl) rfl ?_
      refine dq.g (v := .int .i64 ((txr s (txr s p 0 64).2.1 (txr s p 0 64).2.2 256).2.2)) rfl (by kernel_rfl) rfl rfl (ld1 (P := Tryz.prog) (t := 26) (p := 2) (v := .int .i64 ((txr s (txr s p 0 64).2.1 (txr s p 0 64).2.2 256).2.2)) (by kernel_rfl) (by kernel_rfl) hb12 rfl) rfl ?_
      refine dq.c (v := .slice none (0) (0)) rfl (by kernel_rfl) rfl rfl rfl rfl ?_
      refine dq.c (v := .int .i64 ((txr s (txr s p 0 64).2.1 (txr s p 0 64).2.2 256).2.2)) rfl (by kernel_rfl) rfl rfl rfl rfl ?_
      refine dq.e ?_
      refine AWp.ret ?_
      -- end 1: L3 c3_6 ¬c6_4
      refine ⟨rfl, [.slice none (0) (0), .int .i64 ((txr s (txr s p 0 64).2.1 (txr s p 0 64).2.2 256).2.2)], rfl, .tuple #[.slice none (0) (0), .int .i64 ((txr s (txr s p 0 64).2.1 (txr s p 0 64).2.2 256).2.2)], rfl, hs, hn, ?_⟩
      have hofl : ofL s (s.data.toList.length + 1) 0 [] = ([], (txr s (txr s p 0 64).2.1 (txr s p 0 64).2.2 256).2.2) := by rw [hq, ofL, if_pos (by omega), if_neg c6_4]
      have ho : ofB s = ([], (txr s (txr s p 0 64).2.1 (txr s p 0 64).2.2 256).2.2) := by
        unfold ofB
        rw [hofl, if_neg c6_4]
      rw [ho]
      exact ⟨none, 0, rfl, OwnRow.nil⟩
  · rw [decide_eq_false c3_6]
    refine AWp.condF rfl rfl ?_
    refine AWp.exit ?_
    refine AWp.seq ?_
    refine AWp.seq ?_
    refine AWp.rowV (l := _) pok ?_
    refine sq.c (v := .slice a_l (ls.length) cp_l) rfl rfl rfl rfl ?_
    refine sq.t (v := .bool (mayB ls)) rfl (CallsF.fn rfl (by kernel_rfl) rfl rfl) (fun hf => f25_spec ls R_l.is (by omega) hsz) hf rfl ?_
    intro n27 hn2 hf
    have hn := Nat.le_trans hn hn2
    rcases Bool.eq_false_or_eq_true (mayB ls) with c_m | c_m
    · rw [c_m]
      refine sq.c (v := .bool false) rfl rfl rfl rfl ?_
      refine sq.e ?_
      refine AWp.condF rfl rfl ?_
      refine AWp.skip ?_
      refine AWp.seq ?_
      refine AWp.rowV (l := _) pok ?_
      refine sq.c (v := .slice a_l (ls.length) cp_l) rfl rfl rfl rfl ?_
      refine sq.c (v := .slice a_l (ls.length) cp_l) rfl rfl rfl rfl ?_
      refine sq.c (v := .int .i64 (0)) rfl rfl rfl rfl ?_
      refine sq.e ?_
      refine AWp.ret ?_
      -- end 2: L3 ¬c3_6 c_m
      refine ⟨rfl, [.slice a_l (ls.length) cp_l, .int .i64 (0)], rfl, .tuple #[.slice a_l (ls.length) cp_l, .int .i64 (0)], rfl, hs, hn, ?_⟩
      have hofl : ofL s (s.data.toList.length + 1) 0 [] = (ls, 0) := by rw [hq, ofL, if_neg (by omega)]
      have ho : ofB s = (ls, 0) := by
        unfold ofB
        rw [hofl, if_pos rfl, if_pos c_m]
      rw [ho]
      exact ⟨_, _, rfl, R_l⟩
    · rw [c_m]
      refine sq.c (v := .bool true) rfl rfl rfl rfl ?_
      refine sq.e ?_
      refine AWp.condT rfl rfl ?_
      refine AWp.seq ?_
      refine AWp.rowV (l := _) pok ?_
      refine sq.c (v := .slice none (0) (0)) rfl rfl rfl rfl ?_
      refine sq.c (v := .int .i64 (4)) rfl rfl rfl rfl ?_
      refine sq.e ?_
      refine AWp.ret ?_
      -- end 3: L3 ¬c3_6 ¬c_m
      refine ⟨rfl, [.slice none (0) (0), .int .i64 (4)], rfl, .tuple #[.slice none (0) (0), .int .i64 (4)], rfl, hs, hn, ?_⟩
      have hofl : ofL s (s.data.toList.length + 1) 0 [] = (ls, 0) := by rw [hq, ofL, if_neg (by omega)]
      have ho : ofB s = ([], 4) := by
        unfold ofB
        rw [hofl, if_pos rfl, if_neg (by rw [c_m]; decide)]
      rw [ho]
      exact ⟨none, 0, rfl, OwnRow.nil⟩

end Go.Proofs.YtkpjfibpaojelaaGreatDoor
