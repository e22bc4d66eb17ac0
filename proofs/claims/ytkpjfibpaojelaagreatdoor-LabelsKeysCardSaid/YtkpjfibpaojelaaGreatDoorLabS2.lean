/- labels: the document's reader: batonref01.Reader; bits.New. -/
import Derived.Test.YtkpjfibpaojelaaGreatDoorLabS
namespace Go.Proofs.YtkpjfibpaojelaaGreatDoor
open Go Go.Abs
set_option maxRecDepth 100000
set_option maxHeartbeats 4000000

theorem vrd_e {s : ByteArray} {p e most : Int} (h : (vrd s p e most).2.2 = 0) : e = 0 := by
  by_cases he : e = 0
  · exact he
  · unfold vrd at h; rw [if_neg he] at h; exact h
theorem txr_bad {s : ByteArray} {p e most : Int} (h : ¬ (vrd s p e most).2.2 = 0) : txr s p e most = (⟨#[]⟩, (vrd s p e most).2.1, (vrd s p e most).2.2) := by
  unfold txr
  by_cases he : e = 0
  · rw [if_pos he, if_neg h]
  · rw [if_neg he]; unfold vrd; rw [if_neg he]


/-- (*baton/batonref01.Reader).wrong -/
theorem f79_spec {h : Heap} {n : Nat} {b : Nat} {ci : CI} (s : ByteArray) (p e : Int) (hb : h.get b = some (.cells [.string s, .int .i64 p, .int .i64 e] true ci)) (e2 : Int) :
    Makes Tryz.prog 79 [.pointer (some ⟨b, 0, none⟩), .int .i64 (e2)] h n ([b]) (fun _ h2 _ => h2.get b = some (.cells [.string s, .int .i64 p, .int .i64 e2] true ci)) := by
  refine Makes.free fun hf => ?_
  have hs : SubBut h h ([b]) := .refl _ _
  have hn : n ≤ n := Nat.le_refl _
  have hf0 := hf
  refine Makes.of_bodyV (args := [.pointer (some ⟨b, 0, none⟩), .int .i64 (e2)]) (vs := [.pointer (some ⟨b, 0, none⟩), .int .i64 (e2), undef, undef, undef, undef, undef, undef]) Tryz.func79 rfl rfl ?_
  refine AWp.rowV (l := _) pok ?_
  refine sq.c (v := .pointer (some ⟨b, 0, none⟩)) rfl rfl rfl rfl ?_
  refine sq.c (v := .int .i64 (e2)) rfl rfl rfl rfl ?_
  refine sq.c (v := .pointer (some ⟨b, 0, none⟩)) rfl rfl rfl rfl ?_
  refine sq.c (v := .pointer (some ⟨b, 2, none⟩)) rfl rfl (by kernel_rfl) rfl ?_
  refine sq.op rfl rfl (Does.store (k := 1) (xs := [.int .i64 (e2)]) (cs' := [.string (s), .int .i64 (p), .int .i64 (e2)]) hf (by kernel_rfl) rfl rfl rfl hb rfl rfl (Nat.le_of_ble_eq_true rfl) rfl) ?_
  rintro _ h2 n3 ⟨rfl, hb1⟩ s4 hn2 hf
  refine sq.w0 ?_
  have hs := hs.at (by simp) s4
  have hn := Nat.le_trans hn hn2
  refine sq.e ?_
  -- end 1: 
  refine ⟨rfl, [], rfl, undef, rfl, hs, hn, ?_⟩
  exact hb1

/-- (*baton/batonref01.Reader).Varint -/
theorem f78_spec {h : Heap} {n : Nat} {b : Nat} {ci : CI} (s : ByteArray) (p e : Int) (hb : h.get b = some (.cells [.string s, .int .i64 p, .int .i64 e] true ci)) (hp0 : 0 ≤ p) (hp1 : p ≤ (s.data.toList.length : Nat)) (hls : s.data.toList.length < 9223372036854775807) (most : Int) :
    Makes Tryz.prog 78 [.pointer (some ⟨b, 0, none⟩), .int .u64 (most)] h n ([b]) (fun v h2 _ => v = .int .u64 ((vrd s p e most).1) ∧ h2.get b = some (.cells [.string s, .int .i64 (vrd s p e most).2.1, .int .i64 (vrd s p e most).2.2] true ci)) := by
  refine Makes.free fun hf => ?_
  have hs : SubBut h h ([b]) := .refl _ _
  have hn : n ≤ n := Nat.le_refl _
  have hf0 := hf
  refine Makes.of_bodyV (args := [.pointer (some ⟨b, 0, none⟩), .int .u64 (most)]) (vs := [.pointer (some ⟨b, 0, none⟩), .int .u64 (most), undef, undef, undef, undef, undef, undef, undef, undef, undef, undef, undef, undef, undef, undef, undef, undef, undef, undef, undef, undef, undef, undef, undef, undef, undef, undef, undef, undef, undef, undef, undef, undef, undef, undef, undef, undef, undef, undef, undef]) Tryz.func78 rfl rfl ?_
  refine AWp.seq ?_
  refine AWp.rowV (l := _) pok ?_
  refine sq.c (v := .int .u64 (0)) rfl rfl rfl rfl ?_
  refine sq.e ?_
  refine AWp.seq ?_
  refine AWp.seq ?_
  refine AWp.rowV (l := _) pok ?_
  refine sq.c (v := .pointer (some ⟨b, 0, none⟩)) rfl rfl rfl rfl ?_
  refine sq.c (v := .pointer (some ⟨b, 0, none⟩)) rfl rfl rfl rfl ?_
  refine sq.c (v := .pointer (some ⟨b, 2, none⟩)) rfl rfl (by kernel_rfl) rfl ?_
  refine sq.c (v := .int .i64 (e)) rfl rfl (ld1 (P := Tryz.prog) (t := 26) (p := 2) (v := .int .i64 (e)) (by kernel_rfl) (by kernel_rfl) hb rfl) rfl ?_
  refine sq.c (v := .bool (!decide (e = (0 : Int)))) rfl rfl rfl rfl ?_
  refine sq.e ?_
  by_cases c1_4 : e = (0 : Int)
  · rw [decide_eq_true c1_4]
    refine AWp.condF rfl rfl ?_
    refine AWp.skip ?_
    refine AWp.seq ?_
    refine AWp.anyV pok [] [0, 1, 2, 3, 4, 5, 6, 7, 8, 9, 10, 11, 12, 13, 14, 15] (by kernel_rfl) (by kernel_rfl) rfl (fun x fr fr' h n hd _ q => ⟨hd ▸ q.1, q.2⟩) ?_
    refine dq.c (v := .pointer (some ⟨b, 0, none⟩)) rfl (by kernel_rfl) rfl rfl rfl rfl ?_
    refine dq.c (v := .pointer (some ⟨b, 0, none⟩)) rfl (by kernel_rfl) rfl rfl rfl rfl ?_
    refine dq.c (v := .pointer (some ⟨b, 0, none⟩)) rfl (by kernel_rfl) rfl rfl (by kernel_rfl) rfl ?_
    refine dq.g (v := .string (s)) rfl (by kernel_rfl) rfl rfl (ld1 (P := Tryz.prog) (t := 9) (p := 0) (v := .string (s)) (by kernel_rfl) (by kernel_rfl) hb rfl) rfl ?_
    refine dq.c (v := .pointer (some ⟨b, 0, none⟩)) rfl (by kernel_rfl) rfl rfl rfl rfl ?_
    refine dq.c (v := .pointer (some ⟨b, 0, none⟩)) rfl (by kernel_rfl) rfl rfl rfl rfl ?_
    refine dq.c (v := .pointer (some ⟨b, 1, none⟩)) rfl (by kernel_rfl) rfl rfl (by kernel_rfl) rfl ?_
    refine dq.g (v := .int .i64 (p)) rfl (by kernel_rfl) rfl rfl (ld1 (P := Tryz.prog) (t := 3) (p := 1) (v := .int .i64 (p)) (by kernel_rfl) (by kernel_rfl) hb rfl) rfl ?_
    refine dq.t (v := .tuple #[.int .u64 (exN (rdN s p)), .int .i64 (exX (rdN s p) p), .int .i64 (exE (rdN s p))]) rfl (by kernel_rfl) rfl (CallsF.fn rfl (by kernel_rfl) rfl rfl) (fun hf => f91_spec s p hp0 hp1 hls) hf rfl ?_
    intro n1 hn2 hf
    have hn := Nat.le_trans hn hn2
    refine dq.c (v := .tuple #[.int .u64 (exN (rdN s p)), .int .i64 (exX (rdN s p) p), .int .i64 (exE (rdN s p))]) rfl (by kernel_rfl) rfl rfl rfl rfl ?_
    refine dq.c (v := .int .u64 (exN (rdN s p))) rfl (by kernel_rfl) rfl rfl rfl rfl ?_
    refine dq.c (v := .int .i64 (exX (rdN s p) p)) rfl (by kernel_rfl) rfl rfl rfl rfl ?_
    refine dq.c (v := .int .i64 (exE (rdN s p))) rfl (by kernel_rfl) rfl rfl rfl rfl ?_
    refine dq.c (v := .int .u64 (exN (rdN s p))) rfl (by kernel_rfl) rfl rfl rfl rfl ?_
    refine dq.c (v := .int .i64 (exX (rdN s p) p)) rfl (by kernel_rfl) rfl rfl rfl rfl ?_
    refine dq.c (v := .int .i64 (exE (rdN s p))) rfl (by kernel_rfl) rfl rfl rfl rfl ?_
    refine dq.e ?_
    refine AWp.seq ?_
    refine AWp.seq ?_
    refine AWp.rowV (l := _) pok ?_
    refine sq.c (v := .int .i64 (exE (rdN s p))) rfl rfl rfl rfl ?_
    refine sq.c (v := .bool (!decide ((exE (rdN s p)) = (0 : Int)))) rfl rfl rfl rfl ?_
    refine sq.e ?_
    by_cases c4_1 : (exE (rdN s p)) = (0 : Int)
    · rw [decide_eq_true c4_1]
      refine AWp.condF rfl rfl ?_
      refine AWp.skip ?_
      refine AWp.seq ?_
      refine AWp.seq ?_
      refine AWp.rowV (l := _) pok ?_
      refine sq.c (v := .int .u64 (exN (rdN s p))) rfl rfl rfl rfl ?_
      refine sq.c (v := .int .u64 (most)) rfl rfl rfl rfl ?_
      refine sq.c (v := .bool (decide (most < (exN (rdN s p))))) rfl rfl rfl rfl ?_
      refine sq.e ?_
      by_cases c7_2 : most < (exN (rdN s p))
      · rw [decide_eq_true c7_2]
        refine AWp.condT rfl rfl ?_
        refine AWp.seq ?_
        refine AWp.rowV (l := _) pok ?_
        refine sq.c (v := .pointer (some ⟨b, 0, none⟩)) rfl rfl rfl rfl ?_
        refine sq.k rfl (CallsF.fn rfl (by kernel_rfl) rfl rfl) (f79_spec s _ _ hb _) ?_
        rintro _ h3 n4 hb2 s5 hn2 hf
        refine sq.w ?_
        have hs := hs.at (by simp) s5
        have hn := Nat.le_trans hn hn2
        refine sq.e ?_
        refine AWp.seq ?_
        refine AWp.rowV (l := _) pok ?_
        refine sq.c (v := .int .u64 (0)) rfl rfl rfl rfl ?_
        refine sq.e ?_
        refine AWp.ret ?_
        -- end 1: c1_4 c4_1 c7_2
        refine ⟨rfl, [.int .u64 (0)], rfl, .int .u64 (0), rfl, hs, hn, ?_⟩
        have hv : vrd s p e most = (0, p, 40) := by unfold vrd; rw [if_pos c1_4, if_pos c4_1, if_pos c7_2]
        rw [hv]
        exact ⟨rfl, hb2⟩
      · rw [decide_eq_false c7_2]
        refine AWp.condF rfl rfl ?_
        refine AWp.skip ?_
        refine AWp.seq ?_
        refine AWp.rowV (l := _) pok ?_
        refine sq.c (v := .pointer (some ⟨b, 0, none⟩)) rfl rfl rfl rfl ?_
        refine sq.c (v := .int .i64 (exX (rdN s p) p)) rfl rfl rfl rfl ?_
        refine sq.c (v := .pointer (some ⟨b, 0, none⟩)) rfl rfl rfl rfl ?_
        refine sq.c (v := .pointer (some ⟨b, 1, none⟩)) rfl rfl (by kernel_rfl) rfl ?_
        refine sq.op rfl rfl (Does.store (k := 1) (xs := [.int .i64 (exX (rdN s p) p)]) (cs' := [.string (s), .int .i64 (exX (rdN s p) p), .int .i64 (e)]) hf (by kernel_rfl) rfl rfl rfl hb rfl rfl (Nat.le_of_ble_eq_true rfl) rfl) ?_
        rintro _ h7 n8 ⟨rfl, hb6⟩ s9 hn2 hf
        refine sq.w0 ?_
        have hs := hs.at (by simp) s9
        have hn := Nat.le_trans hn hn2
        refine sq.e ?_
        refine AWp.seq ?_
        refine AWp.rowV (l := _) pok ?_
        refine sq.c (v := .int .u64 (exN (rdN s p))) rfl rfl rfl rfl ?_
        refine sq.c (v := .int .u64 (exN (rdN s p))) rfl rfl rfl rfl ?_
        refine sq.e ?_
        refine AWp.ret ?_
        -- end 2: c1_4 c4_1 ¬c7_2
        refine ⟨rfl, [.int .u64 (exN (rdN s p))], rfl, .int .u64 (exN (rdN s p)), rfl, hs, hn, ?_⟩
        have hv : vrd s p e most = (exN (rdN s p), exX (rdN s p) p, e) := by unfold vrd; rw [if_pos c1_4, if_pos c4_1, if_neg c7_2]
        rw [hv]
        exact ⟨rfl, hb6⟩
    · rw [decide_eq_false c4_1]
      refine AWp.condT rfl rfl ?_
      refine AWp.seq ?_
      refine AWp.rowV (l := _) pok ?_
      refine sq.c (v := .pointer (some ⟨b, 0, none⟩)) rfl rfl rfl rfl ?_
      refine sq.c (v := .int .i64 (exE (rdN s p))) rfl rfl rfl rfl ?_
      refine sq.k rfl (CallsF.fn rfl (by kernel_rfl) rfl rfl) (f79_spec s _ _ hb _) ?_
      rintro _ h11 n12 hb10 s13 hn2 hf
      refine sq.w ?_
      have hs := hs.at (by simp) s13
      have hn := Nat.le_trans hn hn2
      refine sq.e ?_
      refine AWp.seq ?_
      refine AWp.rowV (l := _) pok ?_
      refine sq.c (v := .int .u64 (0)) rfl rfl rfl rfl ?_
      refine sq.e ?_
      refine AWp.ret ?_
      -- end 3: c1_4 ¬c4_1
      refine ⟨rfl, [.int .u64 (0)], rfl, .int .u64 (0), rfl, hs, hn, ?_⟩
      have hv : vrd s p e most = (0, p, exE (rdN s p)) := by unfold vrd; rw [if_pos c1_4, if_neg c4_1]
      rw [hv]
      exact ⟨rfl, hb10⟩
  · rw [decide_eq_false c1_4]
    refine AWp.condT rfl rfl ?_
    refine AWp.seq ?_
    refine AWp.rowV (l := _) pok ?_
    refine sq.c (v := .int .u64 (0)) rfl rfl rfl rfl ?_
    refine sq.e ?_
    refine AWp.ret ?_
    -- end 4: ¬c1_4
    refine ⟨rfl, [.int .u64 (0)], rfl, .int .u64 (0), rfl, hs, hn, ?_⟩
    have hv : vrd s p e most = (0, p, e) := by unfold vrd; rw [if_neg c1_4]
    rw [hv]
    exact ⟨rfl, hb⟩

/-- (*baton/batonref01.Reader).Raw -/
theorem f80_spec {h : Heap} {n : Nat} {b : Nat} {ci : CI} (s : ByteArray) (p e : Int) (hb : h.get b = some (.cells [.string s, .int .i64 p, .int .i64 e] true ci)) (hp0 : 0 ≤ p) (hp1 : p ≤ (s.data.toList.length : Nat)) (hls : s.data.toList.length < 9223372036854775807) (n_ : Int) (hn0 : 0 ≤ n_) (hn1 : n_ < 9223372036854775808) :
    Makes Tryz.prog 80 [.pointer (some ⟨b, 0, none⟩), .int .i64 (n_)] h n ([b]) (fun v h2 _ => v = .string ((raw s p e n_).1) ∧ h2.get b = some (.cells [.string s, .int .i64 (raw s p e n_).2.1, .int .i64 (raw s p e n_).2.2] true ci)) := by
  refine Makes.free fun hf => ?_
  have hs : SubBut h h ([b]) := .refl _ _
  have hn : n ≤ n := Nat.le_refl _
  have hf0 := hf
  refine Makes.of_bodyV (args := [.pointer (some ⟨b, 0, none⟩), .int .i64 (n_)]) (vs := [.pointer (some ⟨b, 0, none⟩), .int .i64 (n_), undef, undef, undef, undef, undef, undef, undef, undef, undef, undef, undef, undef, undef, undef, undef, undef, undef, undef, undef, undef, undef, undef, undef, undef, undef, undef, undef, undef, undef, undef, undef, undef, undef, undef, undef, undef, undef, undef, undef, undef, undef, undef, undef, undef, undef, undef, undef, undef, undef, undef, undef, undef]) Tryz.func80 rfl rfl ?_
  refine AWp.seq ?_
  refine AWp.rowV (l := _) pok ?_
  refine sq.c (v := .string (⟨#[]⟩)) rfl rfl rfl rfl ?_
  refine sq.e ?_
  refine AWp.seq ?_
  refine AWp.seq ?_
  refine AWp.rowV (l := _) pok ?_
  refine sq.c (v := .pointer (some ⟨b, 0, none⟩)) rfl rfl rfl rfl ?_
  refine sq.c (v := .pointer (some ⟨b, 0, none⟩)) rfl rfl rfl rfl ?_
  refine sq.c (v := .pointer (some ⟨b, 2, none⟩)) rfl rfl (by kernel_rfl) rfl ?_
  refine sq.c (v := .int .i64 (e)) rfl rfl (ld1 (P := Tryz.prog) (t := 26) (p := 2) (v := .int .i64 (e)) (by kernel_rfl) (by kernel_rfl) hb rfl) rfl ?_
  refine sq.c (v := .bool (!decide (e = (0 : Int)))) rfl rfl rfl rfl ?_
  refine sq.e ?_
  by_cases c1_4 : e = (0 : Int)
  · rw [decide_eq_true c1_4]
    refine AWp.condF rfl rfl ?_
    refine AWp.skip ?_
    refine AWp.seq ?_
    refine AWp.seq ?_
    refine AWp.rowV (l := _) pok ?_
    refine sq.c (v := .int .i64 (n_)) rfl rfl rfl rfl ?_
    refine sq.c (v := .bool (decide (n_ < (0 : Int)))) rfl rfl rfl rfl ?_
    refine sq.e ?_
    by_cases c3_1 : n_ < (0 : Int)
    · exfalso
      omega
    · rw [decide_eq_false c3_1]
      refine AWp.condF rfl rfl ?_
      refine AWp.skip ?_
      refine AWp.seq ?_
      refine AWp.seq ?_
      refine AWp.anyV pok [] [0, 1, 2, 3, 4, 5, 6, 7, 8, 9, 10, 11] (by kernel_rfl) (by kernel_rfl) rfl (fun x fr fr' h n hd _ q => ⟨hd ▸ q.1, q.2⟩) ?_
      refine dq.c (v := .pointer (some ⟨b, 0, none⟩)) rfl (by kernel_rfl) rfl rfl rfl rfl ?_
      refine dq.c (v := .pointer (some ⟨b, 0, none⟩)) rfl (by kernel_rfl) rfl rfl rfl rfl ?_
      refine dq.c (v := .pointer (some ⟨b, 0, none⟩)) rfl (by kernel_rfl) rfl rfl (by kernel_rfl) rfl ?_
      refine dq.g (v := .string (s)) rfl (by kernel_rfl) rfl rfl (ld1 (P := Tryz.prog) (t := 9) (p := 0) (v := .string (s)) (by kernel_rfl) (by kernel_rfl) hb rfl) rfl ?_
      refine dq.c (v := .int .i64 ((((s).data.toList.length : Nat) : Int))) rfl (by kernel_rfl) rfl rfl (by kernel_rfl) rfl ?_
      refine dq.c (v := .pointer (some ⟨b, 0, none⟩)) rfl (by kernel_rfl) rfl rfl rfl rfl ?_
      refine dq.c (v := .pointer (some ⟨b, 0, none⟩)) rfl (by kernel_rfl) rfl rfl rfl rfl ?_
      refine dq.c (v := .pointer (some ⟨b, 1, none⟩)) rfl (by kernel_rfl) rfl rfl (by kernel_rfl) rfl ?_
      refine dq.g (v := .int .i64 (p)) rfl (by kernel_rfl) rfl rfl (ld1 (P := Tryz.prog) (t := 3) (p := 1) (v := .int .i64 (p)) (by kernel_rfl) (by kernel_rfl) hb rfl) rfl ?_
      refine dq.c (v := .int .i64 (((((s).data.toList.length : Nat) : Int)) - p)) rfl (by kernel_rfl) rfl rfl (okI (wrap_i64 (by omega) (by omega))) rfl ?_
      refine dq.c (v := .int .i64 (n_)) rfl (by kernel_rfl) rfl rfl rfl rfl ?_
      refine dq.c (v := .bool (decide ((((((s).data.toList.length : Nat) : Int)) - p) < n_))) rfl (by kernel_rfl) rfl rfl rfl rfl ?_
      refine dq.e ?_
      by_cases c6_11 : (((((s).data.toList.length : Nat) : Int)) - p) < n_
      · rw [decide_eq_true c6_11]
        refine AWp.condT rfl rfl ?_
        refine AWp.seq ?_
        refine AWp.rowV (l := _) pok ?_
        refine sq.c (v := .pointer (some ⟨b, 0, none⟩)) rfl rfl rfl rfl ?_
        refine sq.k rfl (CallsF.fn rfl (by kernel_rfl) rfl rfl) (f79_spec s _ _ hb _) ?_
        rintro _ h2 n3 hb1 s4 hn2 hf
        refine sq.w ?_
        have hs := hs.at (by simp) s4
        have hn := Nat.le_trans hn hn2
        refine sq.e ?_
        refine AWp.seq ?_
        refine AWp.rowV (l := _) pok ?_
        refine sq.c (v := .string (⟨#[]⟩)) rfl rfl rfl rfl ?_
        refine sq.e ?_
        refine AWp.ret ?_
        -- end 1: c1_4 ¬c3_1 c6_11
        refine ⟨rfl, [.string (⟨#[]⟩)], rfl, .string (⟨#[]⟩), rfl, hs, hn, ?_⟩
        have hv : raw s p e n_ = (⟨#[]⟩, p, 8) := by unfold raw; rw [if_pos c1_4, if_pos c6_11]
        rw [hv]
        exact ⟨rfl, hb1⟩
      · rw [decide_eq_false c6_11]
        refine AWp.condF rfl rfl ?_
        refine AWp.skip ?_
        refine AWp.seq ?_
        refine AWp.anyV pok [] [0, 1, 2, 3, 4, 5, 6, 7, 8, 9, 10, 11, 12, 13, 14, 15] (by kernel_rfl) (by kernel_rfl) rfl (fun x fr fr' h n hd _ q => ⟨hd ▸ q.1, q.2⟩) ?_
        refine dq.c (v := .pointer (some ⟨b, 0, none⟩)) rfl (by kernel_rfl) rfl rfl rfl rfl ?_
        refine dq.c (v := .pointer (some ⟨b, 0, none⟩)) rfl (by kernel_rfl) rfl rfl rfl rfl ?_
        refine dq.c (v := .pointer (some ⟨b, 0, none⟩)) rfl (by kernel_rfl) rfl rfl (by kernel_rfl) rfl ?_
        refine dq.g (v := .string (s)) rfl (by kernel_rfl) rfl rfl (ld1 (P := Tryz.prog) (t := 9) (p := 0) (v := .string (s)) (by kernel_rfl) (by kernel_rfl) hb rfl) rfl ?_
        refine dq.c (v := .pointer (some ⟨b, 0, none⟩)) rfl (by kernel_rfl) rfl rfl rfl rfl ?_
        refine dq.c (v := .pointer (some ⟨b, 0, none⟩)) rfl (by kernel_rfl) rfl rfl rfl rfl ?_
        refine dq.c (v := .pointer (some ⟨b, 1, none⟩)) rfl (by kernel_rfl) rfl rfl (by kernel_rfl) rfl ?_
        refine dq.g (v := .int .i64 (p)) rfl (by kernel_rfl) rfl rfl (ld1 (P := Tryz.prog) (t := 3) (p := 1) (v := .int .i64 (p)) (by kernel_rfl) (by kernel_rfl) hb rfl) rfl ?_
        refine dq.c (v := .pointer (some ⟨b, 0, none⟩)) rfl (by kernel_rfl) rfl rfl rfl rfl ?_
        refine dq.c (v := .pointer (some ⟨b, 0, none⟩)) rfl (by kernel_rfl) rfl rfl rfl rfl ?_
        refine dq.c (v := .pointer (some ⟨b, 1, none⟩)) rfl (by kernel_rfl) rfl rfl (by kernel_rfl) rfl ?_
        refine dq.g (v := .int .i64 (p)) rfl (by kernel_rfl) rfl rfl (ld1 (P := Tryz.prog) (t := 3) (p := 1) (v := .int .i64 (p)) (by kernel_rfl) (by kernel_rfl) hb rfl) rfl ?_
        refine dq.c (v := .int .i64 (n_)) rfl (by kernel_rfl) rfl rfl rfl rfl ?_
        refine dq.c (v := .int .i64 (p + n_)) rfl (by kernel_rfl) rfl rfl (okI (wrap_i64 (by omega) (by omega))) rfl ?_
        refine dq.c (v := .string (sub (s) (p) (p + n_))) rfl (by kernel_rfl) rfl rfl (slice_str (P := Tryz.prog) (h := h) (t := 9) (s := s) (l := p) (u := p + n_) (by kernel_rfl) (.inr ⟨_, rfl⟩) (.inr ⟨_, rfl⟩) (by omega) (by omega) (by omega)) rfl ?_
        refine dq.c (v := .string (sub (s) (p) (p + n_))) rfl (by kernel_rfl) rfl rfl rfl rfl ?_
        refine dq.e ?_
        refine AWp.seq ?_
        refine AWp.rowV (l := _) pok ?_
        refine sq.c (v := .pointer (some ⟨b, 0, none⟩)) rfl rfl rfl rfl ?_
        refine sq.c (v := .pointer (some ⟨b, 0, none⟩)) rfl rfl rfl rfl ?_
        refine sq.c (v := .pointer (some ⟨b, 0, none⟩)) rfl rfl rfl rfl ?_
        refine sq.c (v := .pointer (some ⟨b, 1, none⟩)) rfl rfl (by kernel_rfl) rfl ?_
        refine sq.c (v := .int .i64 (p)) rfl rfl (ld1 (P := Tryz.prog) (t := 3) (p := 1) (v := .int .i64 (p)) (by kernel_rfl) (by kernel_rfl) hb rfl) rfl ?_
        refine sq.c (v := .int .i64 (n_)) rfl rfl rfl rfl ?_
        refine sq.c (v := .int .i64 (p + n_)) rfl rfl (okI (wrap_i64 (by omega) (by omega))) rfl ?_
        refine sq.c (v := .pointer (some ⟨b, 0, none⟩)) rfl rfl rfl rfl ?_
        refine sq.c (v := .pointer (some ⟨b, 1, none⟩)) rfl rfl (by kernel_rfl) rfl ?_
        refine sq.op rfl rfl (Does.store (k := 1) (xs := [.int .i64 (p + n_)]) (cs' := [.string (s), .int .i64 (p + n_), .int .i64 (e)]) hf (by kernel_rfl) rfl rfl rfl hb rfl rfl (Nat.le_of_ble_eq_true rfl) rfl) ?_
        rintro _ h6 n7 ⟨rfl, hb5⟩ s8 hn2 hf
        refine sq.w0 ?_
        have hs := hs.at (by simp) s8
        have hn := Nat.le_trans hn hn2
        refine sq.e ?_
        refine AWp.seq ?_
        refine AWp.rowV (l := _) pok ?_
        refine sq.c (v := .string (sub (s) (p) (p + n_))) rfl rfl rfl rfl ?_
        refine sq.c (v := .string (sub (s) (p) (p + n_))) rfl rfl rfl rfl ?_
        refine sq.e ?_
        refine AWp.ret ?_
        -- end 2: c1_4 ¬c3_1 ¬c6_11
        refine ⟨rfl, [.string (sub (s) (p) (p + n_))], rfl, .string (sub (s) (p) (p + n_)), rfl, hs, hn, ?_⟩
        have hv : raw s p e n_ = (sub s p (p + n_), p + n_, e) := by unfold raw; rw [if_pos c1_4, if_neg c6_11]
        rw [hv]
        exact ⟨rfl, hb5⟩
  · rw [decide_eq_false c1_4]
    refine AWp.condT rfl rfl ?_
    refine AWp.seq ?_
    refine AWp.rowV (l := _) pok ?_
    refine sq.c (v := .string (⟨#[]⟩)) rfl rfl rfl rfl ?_
    refine sq.e ?_
    refine AWp.ret ?_
    -- end 3: ¬c1_4
    refine ⟨rfl, [.string (⟨#[]⟩)], rfl, .string (⟨#[]⟩), rfl, hs, hn, ?_⟩
    have hv : raw s p e n_ = (⟨#[]⟩, p, e) := by unfold raw; rw [if_neg c1_4]
    rw [hv]
    exact ⟨rfl, hb⟩

/-- (*baton/batonref01.Reader).Text -/
theorem f59_spec {h : Heap} {n : Nat} {b : Nat} {ci : CI} (s : ByteArray) (p e : Int) (hb : h.get b = some (.cells [.string s, .int .i64 p, .int .i64 e] true ci)) (hp0 : 0 ≤ p) (hp1 : p ≤ (s.data.toList.length : Nat)) (hls : s.data.toList.length < 9223372036854775807) (most : Int) (hm0 : 0 ≤ most) (hm1 : most < 9223372036854775808) :
    Makes Tryz.prog 59 [.pointer (some ⟨b, 0, none⟩), .int .i64 (most)] h n ([b]) (fun v h2 _ => v = .string ((txr s p e most).1) ∧ h2.get b = some (.cells [.string s, .int .i64 (txr s p e most).2.1, .int .i64 (txr s p e most).2.2] true ci)) := by
  refine Makes.free fun hf => ?_
  have hv := vrd_at (s := s) (e := e) (most := most) hp0 hp1
  have hs : SubBut h h ([b]) := .refl _ _
  have hn : n ≤ n := Nat.le_refl _
  have hf0 := hf
  refine Makes.of_bodyV (args := [.pointer (some ⟨b, 0, none⟩), .int .i64 (most)]) (vs := [.pointer (some ⟨b, 0, none⟩), .int .i64 (most), undef, undef, undef, undef, undef, undef, undef, undef, undef, undef, undef, undef, undef, undef, undef, undef, undef, undef, undef, undef, undef, undef, undef, undef, undef, undef, undef, undef, undef, undef, undef, undef, undef, undef, undef, undef, undef, undef, undef, undef, undef, undef]) Tryz.func59 rfl rfl ?_
  refine AWp.seq ?_
  refine AWp.rowV (l := _) pok ?_
  refine sq.c (v := .string (⟨#[]⟩)) rfl rfl rfl rfl ?_
  refine sq.e ?_
  refine AWp.seq ?_
  refine AWp.rowV (l := _) pok ?_
  refine sq.c (v := .pointer (some ⟨b, 0, none⟩)) rfl rfl rfl rfl ?_
  refine sq.c (v := .pointer (some ⟨b, 0, none⟩)) rfl rfl rfl rfl ?_
  refine sq.c (v := .pointer (some ⟨b, 1, none⟩)) rfl rfl (by kernel_rfl) rfl ?_
  refine sq.c (v := .int .i64 (p)) rfl rfl (ld1 (P := Tryz.prog) (t := 3) (p := 1) (v := .int .i64 (p)) (by kernel_rfl) (by kernel_rfl) hb rfl) rfl ?_
  refine sq.c (v := .int .i64 (p)) rfl rfl rfl rfl ?_
  refine sq.e ?_
  refine AWp.seq ?_
  refine AWp.rowV (l := _) pok ?_
  refine sq.c (v := .pointer (some ⟨b, 0, none⟩)) rfl rfl rfl rfl ?_
  refine sq.c (v := .int .i64 (most)) rfl rfl rfl rfl ?_
  refine sq.c (v := .int .i64 (most)) rfl rfl (okI ((maxE _ _).trans (Int.max_eq_left hm0))) rfl ?_
  refine sq.c (v := .int .u64 (most)) rfl rfl (Eq.trans (b := some (.int .u64 (IntKind.u64.wrap (most)))) (by kernel_rfl) (okI (wrap_u64 (by omega) (by omega)))) rfl ?_
  refine sq.k rfl (CallsF.fn rfl (by kernel_rfl) rfl rfl) (f78_spec s p e hb hp0 hp1 hls most) ?_
  rintro _ h2 n3 ⟨rfl, hb1⟩ s4 hn2 hf
  refine sq.w ?_
  have hs := hs.at (by simp) s4
  have hn := Nat.le_trans hn hn2
  refine sq.c (v := .int .u64 ((vrd s p e most).1)) rfl rfl rfl rfl ?_
  refine sq.e ?_
  refine AWp.seq ?_
  refine AWp.seq ?_
  refine AWp.rowV (l := _) pok ?_
  refine sq.c (v := .pointer (some ⟨b, 0, none⟩)) rfl rfl rfl rfl ?_
  refine sq.c (v := .pointer (some ⟨b, 0, none⟩)) rfl rfl rfl rfl ?_
  refine sq.c (v := .pointer (some ⟨b, 2, none⟩)) rfl rfl (by kernel_rfl) rfl ?_
  refine sq.c (v := .int .i64 ((vrd s p e most).2.2)) rfl rfl (ld1 (P := Tryz.prog) (t := 26) (p := 2) (v := .int .i64 ((vrd s p e most).2.2)) (by kernel_rfl) (by kernel_rfl) hb1 rfl) rfl ?_
  refine sq.c (v := .bool (!decide (((vrd s p e most).2.2) = (0 : Int)))) rfl rfl rfl rfl ?_
  refine sq.e ?_
  by_cases c3_4 : ((vrd s p e most).2.2) = (0 : Int)
  · rw [decide_eq_true c3_4]
    refine AWp.condF rfl rfl ?_
    refine AWp.skip ?_
    refine AWp.seq ?_
    refine AWp.seq ?_
    refine AWp.anyV pok [] [0, 1, 2, 3, 4, 5, 6, 7, 8, 9, 10, 11, 12] (by kernel_rfl) (by kernel_rfl) rfl (fun x fr fr' h n hd _ q => ⟨hd ▸ q.1, q.2⟩) ?_
    refine dq.c (v := .pointer (some ⟨b, 0, none⟩)) rfl (by kernel_rfl) rfl rfl rfl rfl ?_
    refine dq.c (v := .pointer (some ⟨b, 0, none⟩)) rfl (by kernel_rfl) rfl rfl rfl rfl ?_
    refine dq.c (v := .pointer (some ⟨b, 0, none⟩)) rfl (by kernel_rfl) rfl rfl (by kernel_rfl) rfl ?_
    refine dq.g (v := .string (s)) rfl (by kernel_rfl) rfl rfl (ld1 (P := Tryz.prog) (t := 9) (p := 0) (v := .string (s)) (by kernel_rfl) (by kernel_rfl) hb1 rfl) rfl ?_
    refine dq.c (v := .int .i64 ((((s).data.toList.length : Nat) : Int))) rfl (by kernel_rfl) rfl rfl (by kernel_rfl) rfl ?_
    refine dq.c (v := .pointer (some ⟨b, 0, none⟩)) rfl (by kernel_rfl) rfl rfl rfl rfl ?_
    refine dq.c (v := .pointer (some ⟨b, 0, none⟩)) rfl (by kernel_rfl) rfl rfl rfl rfl ?_
    refine dq.c (v := .pointer (some ⟨b, 1, none⟩)) rfl (by kernel_rfl) rfl rfl (by kernel_rfl) rfl ?_
    refine dq.g (v := .int .i64 ((vrd s p e most).2.1)) rfl (by kernel_rfl) rfl rfl (ld1 (P := Tryz.prog) (t := 3) (p := 1) (v := .int .i64 ((vrd s p e most).2.1)) (by kernel_rfl) (by kernel_rfl) hb1 rfl) rfl ?_
    refine dq.c (v := .int .i64 (((((s).data.toList.length : Nat) : Int)) - ((vrd s p e most).2.1))) rfl (by kernel_rfl) rfl rfl (okI (wrap_i64 (by omega) (by omega))) rfl ?_
    refine dq.c (v := .int .u64 (((((s).data.toList.length : Nat) : Int)) - ((vrd s p e most).2.1))) rfl (by kernel_rfl) rfl rfl (Eq.trans (b := some (.int .u64 (IntKind.u64.wrap (((((s).data.toList.length : Nat) : Int)) - ((vrd s p e most).2.1))))) (by kernel_rfl) (okI (wrap_u64 (by omega) (by omega)))) rfl ?_
    refine dq.c (v := .int .u64 ((vrd s p e most).1)) rfl (by kernel_rfl) rfl rfl rfl rfl ?_
    refine dq.c (v := .bool (decide ((((((s).data.toList.length : Nat) : Int)) - ((vrd s p e most).2.1)) < ((vrd s p e most).1)))) rfl (by kernel_rfl) rfl rfl rfl rfl ?_
    refine dq.e ?_
    by_cases c5_12 : (((((s).data.toList.length : Nat) : Int)) - ((vrd s p e most).2.1)) < ((vrd s p e most).1)
    · rw [decide_eq_true c5_12]
      refine AWp.condT rfl rfl ?_
      refine AWp.seq ?_
      refine AWp.rowV (l := _) pok ?_
      refine sq.c (v := .pointer (some ⟨b, 0, none⟩)) rfl rfl rfl rfl ?_
      refine sq.c (v := .int .i64 (p)) rfl rfl rfl rfl ?_
      refine sq.c (v := .pointer (some ⟨b, 0, none⟩)) rfl rfl rfl rfl ?_
      refine sq.c (v := .pointer (some ⟨b, 1, none⟩)) rfl rfl (by kernel_rfl) rfl ?_
      refine sq.op rfl rfl (Does.store (k := 1) (xs := [.int .i64 (p)]) (cs' := [.string (s), .int .i64 (p), .int .i64 ((vrd s p e most).2.2)]) hf (by kernel_rfl) rfl rfl rfl hb1 rfl rfl (Nat.le_of_ble_eq_true rfl) rfl) ?_
      rintro _ h6 n7 ⟨rfl, hb5⟩ s8 hn2 hf
      refine sq.w0 ?_
      have hs := hs.at (by simp) s8
      have hn := Nat.le_trans hn hn2
      refine sq.e ?_
      refine AWp.seq ?_
      refine AWp.rowV (l := _) pok ?_
      refine sq.c (v := .pointer (some ⟨b, 0, none⟩)) rfl rfl rfl rfl ?_
      refine sq.k rfl (CallsF.fn rfl (by kernel_rfl) rfl rfl) (f79_spec s _ _ hb5 _) ?_
      rintro _ h10 n11 hb9 s12 hn2 hf
      refine sq.w ?_
      have hs := hs.at (by simp) s12
      have hn := Nat.le_trans hn hn2
      refine sq.e ?_
      refine AWp.seq ?_
      refine AWp.rowV (l := _) pok ?_
      refine sq.c (v := .string (⟨#[]⟩)) rfl rfl rfl rfl ?_
      refine sq.e ?_
      refine AWp.ret ?_
      -- end 1: c3_4 c5_12
      refine ⟨rfl, [.string (⟨#[]⟩)], rfl, .string (⟨#[]⟩), rfl, hs, hn, ?_⟩
      have hv2 : txr s p e most = (⟨#[]⟩, p, 8) := by unfold txr; rw [if_pos (vrd_e c3_4), if_pos c3_4, if_pos c5_12]
      rw [hv2]
      exact ⟨rfl, hb9⟩
    · rw [decide_eq_false c5_12]
      refine AWp.condF rfl rfl ?_
      refine AWp.skip ?_
      refine AWp.seq ?_
      refine AWp.rowV (l := _) pok ?_
      refine sq.c (v := .pointer (some ⟨b, 0, none⟩)) rfl rfl rfl rfl ?_
      refine sq.c (v := .int .u64 ((vrd s p e most).1)) rfl rfl rfl rfl ?_
      refine sq.c (v := .int .i64 ((vrd s p e most).1)) rfl rfl (Eq.trans (b := some (.int .i64 (IntKind.i64.wrap ((vrd s p e most).1)))) (by kernel_rfl) (okI (wrap_i64 (by omega) (by omega)))) rfl ?_
      refine sq.k rfl (CallsF.fn rfl (by kernel_rfl) rfl rfl) (f80_spec s _ _ hb1 hv.1 hv.2.1 hls _ hv.2.2 (by omega)) ?_
      rintro _ h14 n15 ⟨rfl, hb13⟩ s16 hn2 hf
      refine sq.w ?_
      have hs := hs.at (by simp) s16
      have hn := Nat.le_trans hn hn2
      refine sq.c (v := .string ((raw s (vrd s p e most).2.1 (vrd s p e most).2.2 (vrd s p e most).1).1)) rfl rfl rfl rfl ?_
      refine sq.e ?_
      refine AWp.ret ?_
      -- end 2: c3_4 ¬c5_12
      refine ⟨rfl, [.string ((raw s (vrd s p e most).2.1 (vrd s p e most).2.2 (vrd s p e most).1).1)], rfl, .string ((raw s (vrd s p e most).2.1 (vrd s p e most).2.2 (vrd s p e most).1).1), rfl, hs, hn, ?_⟩
      have hv2 : txr s p e most = raw s (vrd s p e most).2.1 (vrd s p e most).2.2 (vrd s p e most).1 := by unfold txr; rw [if_pos (vrd_e c3_4), if_pos c3_4, if_neg c5_12]
      rw [hv2]
      exact ⟨rfl, hb13⟩
  · rw [decide_eq_false c3_4]
    refine AWp.condT rfl rfl ?_
    refine AWp.seq ?_
    refine AWp.rowV (l := _) pok ?_
    refine sq.c (v := .string (⟨#[]⟩)) rfl rfl rfl rfl ?_
    refine sq.e ?_
    refine AWp.ret ?_
    -- end 3: ¬c3_4
    refine ⟨rfl, [.string (⟨#[]⟩)], rfl, .string (⟨#[]⟩), rfl, hs, hn, ?_⟩
    rw [txr_bad c3_4]
    exact ⟨rfl, hb1⟩

end Go.Proofs.YtkpjfibpaojelaaGreatDoor
