/- labels: reading numbers, from anywhere: batonref01.Uvarint. -/
import Derived.Test.YtkpjfibpaojelaaGreatDoorLabR
namespace Go.Proofs.YtkpjfibpaojelaaGreatDoor
open Go Go.Abs
set_option maxRecDepth 100000
set_option maxHeartbeats 4000000

theorem rdU_k : ∀ (bs : List UInt8) (i n k : Nat), rdU bs i = .ok (n, k) → 0 < k ∧ k ≤ bs.length := by
  intro bs
  induction bs with
  | nil => intro i n k h; cases h
  | cons b r ih =>
    intro i n k h
    rw [rdU] at h
    split at h
    · cases h
    · split at h
      · cases h; simp
      · split at h
        · rename_i n' k' e
          cases h
          have := ih _ _ _ e
          simp only [List.length_cons]; omega
        · cases h
theorem exK_le {s : ByteArray} {p : Int} (h0 : 0 ≤ p) (h1 : p ≤ (s.data.toList.length : Nat)) : 0 ≤ exK (rdN s p) ∧ p + exK (rdN s p) ≤ (s.data.toList.length : Nat) := by
  cases e : rdN s p with
  | error e => exact ⟨Int.le_refl _, by show p + 0 ≤ _; omega⟩
  | ok q =>
    obtain ⟨n, k⟩ := q
    have := rdU_k _ _ _ _ e
    rw [List.length_drop] at this
    refine ⟨by show (0 : Int) ≤ (k : Nat); omega, ?_⟩
    show p + (k : Nat) ≤ _
    omega
theorem rdU_e : ∀ (bs : List UInt8) (i e : Nat), rdU bs i = .error e → e ≠ 0 := by
  intro bs
  induction bs with
  | nil => intro i e h; cases h; decide
  | cons b r ih =>
    intro i e h
    rw [rdU] at h
    split at h
    · cases h; decide
    · split at h
      · cases h
      · split at h
        · cases h
        · rename_i e' h'
          cases h
          exact ih _ _ h'
theorem ex_bad {s : ByteArray} {p : Int} (h : ¬ exE (rdN s p) = 0) : exN (rdN s p) = 0 ∧ exX (rdN s p) p = 0 := by
  cases e : rdN s p with
  | error e => exact ⟨rfl, rfl⟩
  | ok q => rw [e] at h; exact (h rfl).elim
theorem ex_good {s : ByteArray} {p : Int} (h : exE (rdN s p) = 0) : exX (rdN s p) p = p + exK (rdN s p) := by
  cases e : rdN s p with
  | error e' => rw [e] at h; exact (rdU_e _ _ _ e (by simpa [exE] using h)).elim
  | ok q => rfl
theorem sub_drop {s : ByteArray} {p : Int} (h0 : 0 ≤ p) (h1 : p ≤ (s.data.toList.length : Nat)) : (sub s p (s.data.toList.length : Nat)).data.toList = s.data.toList.drop p.toNat := by
  simp only [sub, sliceS]
  rw [List.take_of_length_le]
  rw [List.length_drop]; omega
theorem read_spec {h : Heap} {n : Nat} (s : ByteArray) (p : Int) (h0 : 0 ≤ p) (h1 : p ≤ (s.data.toList.length : Nat)) (hls : s.data.toList.length < 9223372036854775807) :
    Tells Tryz.prog 103 [.string (sub s p (s.data.toList.length : Nat))] h n (.tuple #[.int .u64 (exN (rdN s p)), .int .i64 (exK (rdN s p)), .int .i64 (exE (rdN s p))]) := by
  have e := sub_drop h0 h1
  have := f103_spec (h := h) (n := n) (sub s p (s.data.toList.length : Nat)) (by rw [e, List.length_drop]; omega)
  rw [e] at this
  exact this


/-- baton/batonref01.Uvarint -/
theorem f91_spec {h : Heap} {n : Nat} (s : ByteArray) (p : Int) (hp0 : 0 ≤ p) (hp1 : p ≤ (s.data.toList.length : Nat)) (hls : s.data.toList.length < 9223372036854775807) :
    Tells Tryz.prog 91 [.string (s), .int .i64 (p)] h n (.tuple #[.int .u64 (exN (rdN s p)), .int .i64 (exX (rdN s p) p), .int .i64 (exE (rdN s p))]) := by
  refine Makes.tells (Makes.free fun hf => ?_)
  have hk := exK_le (s := s) hp0 hp1
  have hs : SubBut h h ([]) := .refl _ _
  have hn : n ≤ n := Nat.le_refl _
  have hf0 := hf
  refine Makes.of_bodyV (args := [.string (s), .int .i64 (p)]) (vs := [.string (s), .int .i64 (p), undef, undef, undef, undef, undef, undef, undef, undef, undef, undef, undef, undef, undef, undef, undef, undef, undef, undef, undef, undef, undef, undef, undef, undef, undef, undef, undef, undef, undef, undef, undef]) Tryz.func91 rfl rfl ?_
  refine AWp.seq ?_
  refine AWp.rowV (l := _) pok ?_
  refine sq.c (v := .int .u64 (0)) rfl rfl rfl rfl ?_
  refine sq.c (v := .int .i64 (0)) rfl rfl rfl rfl ?_
  refine sq.c (v := .int .i64 (0)) rfl rfl rfl rfl ?_
  refine sq.e ?_
  refine AWp.seq ?_
  refine AWp.seq ?_
  refine AWp.rowV (l := _) pok ?_
  refine sq.c (v := .int .i64 (p)) rfl rfl rfl rfl ?_
  refine sq.c (v := .bool (decide (p < (0 : Int)))) rfl rfl rfl rfl ?_
  refine sq.c (v := .bool (decide (p < (0 : Int)))) rfl rfl rfl rfl ?_
  by_cases c1_1 : p < (0 : Int)
  · exfalso
    omega
  · rw [decide_eq_false c1_1]
    refine sq.c (v := .int .i64 (p)) (wantT (g := 2) (d := 12) rfl rfl rfl) rfl rfl rfl ?_
    refine sq.c (v := .string (s)) (wantT (g := 2) (d := 12) rfl rfl rfl) rfl rfl rfl ?_
    refine sq.c (v := .int .i64 ((((s).data.toList.length : Nat) : Int))) (wantT (g := 2) (d := 12) rfl rfl rfl) rfl (by kernel_rfl) rfl ?_
    refine sq.c (v := .bool (decide (((((s).data.toList.length : Nat) : Int)) < p))) (wantT (g := 2) (d := 12) rfl rfl rfl) rfl rfl rfl ?_
    refine sq.c (v := .bool (decide (((((s).data.toList.length : Nat) : Int)) < p))) rfl rfl rfl rfl ?_
    refine sq.e ?_
    by_cases c1_6 : ((((s).data.toList.length : Nat) : Int)) < p
    · exfalso
      omega
    · rw [decide_eq_false c1_6]
      refine AWp.condF rfl rfl ?_
      refine AWp.skip ?_
      refine AWp.seq ?_
      refine AWp.rowV (l := _) pok ?_
      refine sq.c (v := .string (s)) rfl rfl rfl rfl ?_
      refine sq.c (v := .int .i64 (p)) rfl rfl rfl rfl ?_
      refine sq.c (v := .string (sub (s) (p) ((((s).data.toList.length : Nat) : Int)))) rfl rfl (slice_str (P := Tryz.prog) (h := h) (t := 9) (s := s) (l := p) (u := (((s).data.toList.length : Nat) : Int)) (by kernel_rfl) (.inr ⟨_, rfl⟩) (.inl ⟨rfl, rfl⟩) (by omega) (by omega) (by omega)) rfl ?_
      refine sq.t (v := .tuple #[.int .u64 (exN (rdN s p)), .int .i64 (exK (rdN s p)), .int .i64 (exE (rdN s p))]) rfl (CallsF.fn rfl (by kernel_rfl) rfl rfl) (fun hf => read_spec s p hp0 hp1 hls) hf rfl ?_
      intro n1 hn2 hf
      have hn := Nat.le_trans hn hn2
      refine sq.c (v := .tuple #[.int .u64 (exN (rdN s p)), .int .i64 (exK (rdN s p)), .int .i64 (exE (rdN s p))]) rfl rfl rfl rfl ?_
      refine sq.c (v := .int .u64 (exN (rdN s p))) rfl rfl rfl rfl ?_
      refine sq.c (v := .int .i64 (exK (rdN s p))) rfl rfl rfl rfl ?_
      refine sq.c (v := .int .i64 (exE (rdN s p))) rfl rfl rfl rfl ?_
      refine sq.c (v := .int .u64 (exN (rdN s p))) rfl rfl rfl rfl ?_
      refine sq.c (v := .int .i64 (exK (rdN s p))) rfl rfl rfl rfl ?_
      refine sq.c (v := .int .i64 (exE (rdN s p))) rfl rfl rfl rfl ?_
      refine sq.e ?_
      refine AWp.seq ?_
      refine AWp.seq ?_
      refine AWp.rowV (l := _) pok ?_
      refine sq.c (v := .int .i64 (exE (rdN s p))) rfl rfl rfl rfl ?_
      refine sq.c (v := .bool (!decide ((exE (rdN s p)) = (0 : Int)))) rfl rfl rfl rfl ?_
      refine sq.e ?_
      by_cases c4_1 : (exE (rdN s p)) = (0 : Int)
      · rw [decide_eq_true c4_1]
        refine AWp.condF rfl rfl ?_
        refine AWp.skip ?_
        refine AWp.seq ?_
        refine AWp.rowV (l := _) pok ?_
        refine sq.c (v := .int .u64 (exN (rdN s p))) rfl rfl rfl rfl ?_
        refine sq.c (v := .int .i64 (p)) rfl rfl rfl rfl ?_
        refine sq.c (v := .int .i64 (exK (rdN s p))) rfl rfl rfl rfl ?_
        refine sq.c (v := .int .i64 (p + (exK (rdN s p)))) rfl rfl (okI (wrap_i64 (by omega) (by omega))) rfl ?_
        refine sq.c (v := .int .u64 (exN (rdN s p))) rfl rfl rfl rfl ?_
        refine sq.c (v := .int .i64 (p + (exK (rdN s p)))) rfl rfl rfl rfl ?_
        refine sq.c (v := .int .i64 (0)) rfl rfl rfl rfl ?_
        refine sq.e ?_
        refine AWp.ret ?_
        -- end 1: ¬c1_1 ¬c1_6 c4_1
        refine ⟨rfl, [.int .u64 (exN (rdN s p)), .int .i64 (p + (exK (rdN s p))), .int .i64 (0)], rfl, .tuple #[.int .u64 (exN (rdN s p)), .int .i64 (p + (exK (rdN s p))), .int .i64 (0)], rfl, hs, hn, ?_⟩
        exact tup3 rfl (ex_good c4_1).symm c4_1.symm
      · rw [decide_eq_false c4_1]
        refine AWp.condT rfl rfl ?_
        refine AWp.seq ?_
        refine AWp.rowV (l := _) pok ?_
        refine sq.c (v := .int .i64 (exE (rdN s p))) rfl rfl rfl rfl ?_
        refine sq.c (v := .int .u64 (0)) rfl rfl rfl rfl ?_
        refine sq.c (v := .int .i64 (0)) rfl rfl rfl rfl ?_
        refine sq.c (v := .int .i64 (exE (rdN s p))) rfl rfl rfl rfl ?_
        refine sq.e ?_
        refine AWp.ret ?_
        -- end 2: ¬c1_1 ¬c1_6 ¬c4_1
        refine ⟨rfl, [.int .u64 (0), .int .i64 (0), .int .i64 (exE (rdN s p))], rfl, .tuple #[.int .u64 (0), .int .i64 (0), .int .i64 (exE (rdN s p))], rfl, hs, hn, ?_⟩
        exact tup3 (ex_bad c4_1).1.symm (ex_bad c4_1).2.symm rfl

end Go.Proofs.YtkpjfibpaojelaaGreatDoor
