/- labels: reading numbers: bits.Uvarint, batonref01.Read, batonref01.Uvarint. -/
import Derived.Test.YtkpjfibpaojelaaGreatDoorLabK
namespace Go.Proofs.YtkpjfibpaojelaaGreatDoor
open Go Go.Abs
set_option maxRecDepth 100000
set_option maxHeartbeats 4000000

/-- A number in bytes of seven bits, from the i-th byte on: what is wrong, or the number and how many bytes. -/
def rdU : List UInt8 → Nat → Except Nat (Nat × Nat)
  | [], _ => .error 8
  | b :: r, i => if i = 9 ∧ 1 < b.toNat then .error 4 else if b.toNat < 128 then .ok (b.toNat * 128 ^ i, 1) else
      match rdU r (i + 1) with
      | .ok (n, k) => .ok ((b.toNat - 128) * 128 ^ i + n, k + 1)
      | .error e => .error e
/-- A number's value, and how far it goes; what is wrong. -/
def rdN (s : ByteArray) (at_ : Int) : Except Nat (Nat × Nat) := rdU (s.data.toList.drop at_.toNat) 0
theorem or_add {a b i : Nat} (h : a < 128 ^ i) : a ||| b * 128 ^ i = a + b * 128 ^ i := by
  have e : (128 : Nat) ^ i = 2 ^ (7 * i) := by rw [show (128 : Nat) = 2 ^ 7 from rfl, ← Nat.pow_mul]
  rw [e] at h ⊢
  rw [Nat.or_comm, Nat.mul_comm b, ← Nat.two_pow_add_eq_or_of_lt h, Nat.add_comm]
theorem or_u64 {a b : Int} (ha : 0 ≤ a) (ha' : a < 18446744073709551616) (hb : 0 ≤ b) (hb' : b < 18446744073709551616) : IntKind.u64.wrap ((BitVec.ofInt IntKind.u64.bits a ||| BitVec.ofInt IntKind.u64.bits b).toNat) = ((a.toNat ||| b.toNat : Nat) : Int) := by
  have e : ∀ x : Int, 0 ≤ x → x < 18446744073709551616 → (BitVec.ofInt IntKind.u64.bits x).toNat = x.toNat := by
    intro x h0 h1
    show (BitVec.ofInt 64 x).toNat = _
    rw [BitVec.toNat_ofInt]
    congr 1
    omega
  rw [BitVec.toNat_or, e a ha ha', e b hb hb']
  refine wrap_u64 (by omega) ?_
  have : a.toNat ||| b.toNat < 2 ^ 64 := Nat.or_lt_two_pow (by omega) (by omega)
  omega
/-- 128 to a power. -/
def p128 (i : Int) : Int := 128 ^ i.toNat
theorem p128_le {i : Int} (h0 : 0 ≤ i) (h9 : i ≤ 9) : p128 i ≤ 9223372036854775808 := by
  have h : ∀ k, k ≤ 9 → (128 : Int) ^ k ≤ 9223372036854775808 := by decide +kernel
  exact h _ (by omega)
theorem p128_pos (i : Int) : 0 < p128 i := Int.pow_pos (by decide)
theorem p128_le8 {i : Int} (h0 : 0 ≤ i) (h9 : i ≤ 8) : p128 i ≤ 72057594037927936 := by
  have h : ∀ k, k ≤ 8 → (128 : Int) ^ k ≤ 72057594037927936 := by decide +kernel
  exact h _ (by omega)
theorem p128_succ {i : Int} (h0 : 0 ≤ i) : p128 (i + 1) = p128 i * 128 := by
  unfold p128
  rw [show (i + 1).toNat = i.toNat + 1 by omega, Int.pow_succ]
/-- What a byte adds is small enough. -/
theorem add_fits {b i : Int} (h0 : 0 ≤ i) (h9 : i ≤ 9) (hb0 : 0 ≤ b) (hb : b < 128) (hb9 : i = 9 → b ≤ 1) : b * p128 i < 18446744073709551616 ∧ 0 ≤ b * p128 i := by
  have hp := p128_pos i
  refine ⟨?_, Int.mul_nonneg hb0 (by omega)⟩
  by_cases h : i = 9
  · have := p128_le h0 h9
    have h1 : b * p128 i ≤ 1 * p128 i := Int.mul_le_mul_of_nonneg_right (hb9 h) (by omega)
    omega
  · have := p128_le8 h0 (by omega)
    have h1 : b * p128 i ≤ 127 * p128 i := Int.mul_le_mul_of_nonneg_right (by omega) (by omega)
    omega
theorem add_fits2 {a b i : Int} (h0 : 0 ≤ i) (h9 : i ≤ 9) (ha0 : 0 ≤ a) (ha : a < p128 i) (hb0 : 0 ≤ b) (hb : b < 128) (hb9 : i = 9 → b ≤ 1) : 0 ≤ b * p128 i ∧ a + b * p128 i < 18446744073709551616 := by
  have hp := p128_pos i
  refine ⟨Int.mul_nonneg hb0 (by omega), ?_⟩
  by_cases h : i = 9
  · have := p128_le h0 h9
    have h1 : b * p128 i ≤ 1 * p128 i := Int.mul_le_mul_of_nonneg_right (hb9 h) (by omega)
    omega
  · have := p128_le8 h0 (by omega)
    have h1 : b * p128 i ≤ 127 * p128 i := Int.mul_le_mul_of_nonneg_right (by omega) (by omega)
    omega
theorem shl_seven {b i : Int} (h0 : 0 ≤ i) (h9 : i ≤ 9) (hb0 : 0 ≤ b) (hb : b < 128) (hb9 : i = 9 → b ≤ 1) {t : TypeId} {cx cy : Bool} : binE Tryz.prog .shl t cx cy (.int .u64 b) (.int .i64 (7 * i)) = some (.int .u64 (b * p128 i)) := by
  have e : (2 : Int) ^ (min (7 * i).toNat IntKind.u64.bits) = p128 i := by
    have hm : min (7 * i).toNat IntKind.u64.bits = 7 * i.toNat := by
      show min (7 * i).toNat 64 = _
      omega
    rw [hm, Int.pow_mul]
    rfl
  obtain ⟨h1, h2⟩ := add_fits h0 h9 hb0 hb hb9
  show (if (7 * i : Int) < 0 then none else some (Value.int .u64 (IntKind.u64.wrap (b * 2 ^ (min (7 * i).toNat IntKind.u64.bits))))) = _
  rw [if_neg (by omega), e, wrap_u64 h2 h1]
theorem mul_nat {b i : Int} (hb : 0 ≤ b) : ∃ m : Nat, b * p128 i = (m : Int) ∧ b.toNat * 128 ^ i.toNat = m := by
  refine ⟨_, ?_, rfl⟩
  rw [Int.natCast_mul, Int.natCast_pow, show ((b.toNat : Nat) : Int) = b by omega]
  rfl
theorem p128_nat (i : Int) : p128 i = ((128 ^ i.toNat : Nat) : Int) := by rw [Int.natCast_pow]; rfl
theorem or_seven {a b i : Int} (h0 : 0 ≤ i) (h9 : i ≤ 9) (ha0 : 0 ≤ a) (ha : a < p128 i) (hb0 : 0 ≤ b) (hb : b < 128) (hb9 : i = 9 → b ≤ 1) {t : TypeId} {cx cy : Bool} : binE Tryz.prog .or t cx cy (.int .u64 a) (.int .u64 (b * p128 i)) = some (.int .u64 (a + b * p128 i)) := by
  obtain ⟨h1, h2⟩ := add_fits h0 h9 hb0 hb hb9
  have h3 := p128_le h0 h9
  show some (Value.int .u64 (IntKind.u64.wrap _)) = _
  rw [or_u64 ha0 (by omega) h2 h1]
  obtain ⟨m, e1, e2⟩ := mul_nat (b := b) (i := i) hb0
  rw [e1, Int.toNat_natCast, ← e2, or_add (by rw [p128_nat] at ha; generalize 128 ^ i.toNat = q at *; omega), e2]
  congr 2
  omega
theorem clr_hi {b : Int} (h0 : 128 ≤ b) (h1 : b < 256) {t : TypeId} {cx cy : Bool} : binE Tryz.prog .andNot t cx cy (.int .u64 b) (.int .u64 128) = some (.int .u64 (b - 128)) := by
  have hc : ∀ n, n < 256 → 128 ≤ n → IntKind.u64.wrap ((BitVec.ofInt IntKind.u64.bits (n : Nat) &&& ~~~BitVec.ofInt IntKind.u64.bits 128).toNat) = (n : Int) - 128 := by
    have : ((List.range 256).all fun n => decide (n < 128) || IntKind.u64.wrap ((BitVec.ofInt IntKind.u64.bits (n : Nat) &&& ~~~BitVec.ofInt IntKind.u64.bits 128).toNat) == (n : Int) - 128) = true := by kernel_rfl
    intro n hn hm
    have h := List.all_eq_true.1 this n (List.mem_range.2 hn)
    rw [decide_eq_false (by omega), Bool.false_or] at h
    simpa using h
  have := hc b.toNat (by omega) (by omega)
  rw [show ((b.toNat : Nat) : Int) = b by omega] at this
  show some (Value.int .u64 (IntKind.u64.wrap _)) = _
  rw [this]
/-- What was read ahead is added. -/
def shR (r : Except Nat (Nat × Nat)) (a i : Nat) : Except Nat (Nat × Nat) := match r with
  | .ok (n, k) => .ok (a + n, i + k)
  | .error e => .error e
def exN (r : Except Nat (Nat × Nat)) : Int := match r with
  | .ok (n, _) => n
  | .error _ => 0
def exK (r : Except Nat (Nat × Nat)) : Int := match r with
  | .ok (_, k) => k
  | .error _ => 0
def exX (r : Except Nat (Nat × Nat)) (at_ : Int) : Int := match r with
  | .ok (_, k) => at_ + k
  | .error _ => 0
def exE (r : Except Nat (Nat × Nat)) : Int := match r with
  | .ok _ => 0
  | .error e => e
theorem rd_end {s : ByteArray} {j : Int} (h : j = (s.data.toList.length : Nat)) (i : Nat) : rdU (s.data.toList.drop j.toNat) i = .error 8 := by
  rw [List.drop_eq_nil_of_le (by omega)]; rfl
theorem rd_cons {s : ByteArray} {j : Int} (h0 : 0 ≤ j) (h1 : j < (s.data.toList.length : Nat)) : ∃ b : UInt8, bt s j = b.toNat ∧ s.data.toList.drop j.toNat = b :: s.data.toList.drop (j + 1).toNat := by
  refine ⟨s.data.toList[j.toNat]'(by omega), ?_, ?_⟩
  · unfold bt
    rw [List.getElem?_eq_getElem (by omega)]
    rfl
  · rw [List.drop_eq_getElem_cons (by omega), show (j + 1).toNat = j.toNat + 1 by omega]
theorem shR_end {s : ByteArray} {j : Int} (h : j = (s.data.toList.length : Nat)) (a i : Nat) : shR (rdU (s.data.toList.drop j.toNat) i) a i = .error 8 := by rw [rd_end h]; rfl
theorem shR_bad {s : ByteArray} {j i : Int} (h0 : 0 ≤ j) (h1 : j < (s.data.toList.length : Nat)) (hi : i = 9) (hb : 1 < bt s j) (a : Nat) : shR (rdU (s.data.toList.drop j.toNat) i.toNat) a i.toNat = .error 4 := by
  obtain ⟨b, e1, e2⟩ := rd_cons h0 h1
  rw [e2, rdU, if_pos ⟨by omega, by omega⟩]
  rfl
theorem shR_last {s : ByteArray} {j i a : Int} (h0 : 0 ≤ j) (h1 : j < (s.data.toList.length : Nat)) (hi : 0 ≤ i) (ha : 0 ≤ a) (hb : bt s j < 128) (h9 : i = 9 → ¬ 1 < bt s j) : shR (rdU (s.data.toList.drop j.toNat) i.toNat) a.toNat i.toNat = .ok ((a + bt s j * p128 i).toNat, (i + 1).toNat) := by
  obtain ⟨b, e1, e2⟩ := rd_cons h0 h1
  obtain ⟨m, h2, h3⟩ := mul_nat (b := bt s j) (i := i) (by omega)
  rw [show (bt s j).toNat = b.toNat by omega] at h3
  rw [e2, rdU, if_neg (fun q => h9 (by omega) (by omega)), if_pos (by omega)]
  show Except.ok (_, _) = _
  rw [h2, h3]
  congr 2
  · omega
  · omega
theorem shR_more {s : ByteArray} {j i a : Int} (h0 : 0 ≤ j) (h1 : j < (s.data.toList.length : Nat)) (hi : 0 ≤ i) (ha : 0 ≤ a) (hb : 128 ≤ bt s j) (h9 : i ≠ 9) : shR (rdU (s.data.toList.drop j.toNat) i.toNat) a.toNat i.toNat = shR (rdU (s.data.toList.drop (j + 1).toNat) (i + 1).toNat) (a + (bt s j - 128) * p128 i).toNat (i + 1).toNat := by
  obtain ⟨b, e1, e2⟩ := rd_cons h0 h1
  obtain ⟨m, h2, h3⟩ := mul_nat (b := bt s j - 128) (i := i) (by omega)
  rw [show (bt s j - 128).toNat = b.toNat - 128 by omega] at h3
  rw [e2, rdU, if_neg (fun q => h9 (by omega)), if_neg (by omega), show i.toNat + 1 = (i + 1).toNat by omega]
  cases rdU (s.data.toList.drop (j + 1).toNat) (i + 1).toNat with
  | error e => rfl
  | ok q =>
    obtain ⟨n, k⟩ := q
    show Except.ok (_, _) = Except.ok (_, _)
    rw [h2, h3]
    congr 2
    · omega
    · omega
theorem shR_zero (r : Except Nat (Nat × Nat)) : r = shR r 0 0 := by
  cases r with
  | error e => rfl
  | ok q => obtain ⟨n, k⟩ := q; simp [shR]
theorem tup3 {a a' b b' c c' : Int} (h1 : a = a') (h2 : b = b') (h3 : c = c') : Value.tuple #[.int .u64 a, .int .i64 b, .int .i64 c] = .tuple #[.int .u64 a', .int .i64 b', .int .i64 c'] := by rw [h1, h2, h3]


/-- baton/bits.Uvarint -/
theorem f89_spec {h : Heap} {n : Nat} (s : ByteArray) (p : Int) (hp0 : 0 ≤ p) (hp1 : p ≤ (s.data.toList.length : Nat)) (hls : s.data.toList.length < 9223372036854775807) :
    Tells Tryz.prog 89 [.string (s), .int .i64 (p)] h n (.tuple #[.int .u64 (exN (rdN s p)), .int .i64 (exX (rdN s p) p), .int .i64 (exE (rdN s p))]) := by
  refine Makes.tells (Makes.free fun hf => ?_)
  have hs : SubBut h h ([]) := .refl _ _
  have hn : n ≤ n := Nat.le_refl _
  have hf0 := hf
  refine Makes.of_bodyV (args := [.string (s), .int .i64 (p)]) (vs := [.string (s), .int .i64 (p), undef, undef, undef, undef, undef, undef, undef, undef, undef, undef, undef, undef, undef, undef, undef, undef, undef, undef, undef, undef, undef, undef, undef, undef, undef, undef, undef, undef, undef, undef, undef, undef, undef, undef, undef, undef, undef, undef, undef, undef, undef, undef, undef, undef, undef, undef, undef, undef, undef, undef, undef, undef, undef, undef, undef, undef, undef]) Tryz.func89 rfl rfl ?_
  refine AWp.seq ?_
  refine AWp.rowV (l := _) pok ?_
  refine sq.c (v := .int .u64 (0)) rfl rfl rfl rfl ?_
  refine sq.c (v := .int .i64 (0)) rfl rfl rfl rfl ?_
  refine sq.c (v := .int .i64 (0)) rfl rfl rfl rfl ?_
  refine sq.e ?_
  refine AWp.scope ?_
  refine AWp.seq ?_
  refine AWp.seq ?_
  refine AWp.rowV (l := _) pok ?_
  refine sq.c (v := .int .i64 (p)) rfl rfl rfl rfl ?_
  refine sq.c (v := .bool (decide (p < (0 : Int)))) rfl rfl rfl rfl ?_
  refine sq.c (v := .bool (decide (p < (0 : Int)))) rfl rfl rfl rfl ?_
  by_cases c1_1 : p < (0 : Int)
  · exfalso
    omega
  · rw [decide_eq_false c1_1]
    refine sq.c (v := .int .i64 (p)) (wantT (g := 2) (d := 11) rfl rfl rfl) rfl rfl rfl ?_
    refine sq.c (v := .string (s)) (wantT (g := 2) (d := 11) rfl rfl rfl) rfl rfl rfl ?_
    refine sq.c (v := .int .i64 ((((s).data.toList.length : Nat) : Int))) (wantT (g := 2) (d := 11) rfl rfl rfl) rfl (by kernel_rfl) rfl ?_
    refine sq.c (v := .bool (decide (((((s).data.toList.length : Nat) : Int)) < p))) (wantT (g := 2) (d := 11) rfl rfl rfl) rfl rfl rfl ?_
    refine sq.c (v := .bool (decide (((((s).data.toList.length : Nat) : Int)) < p))) rfl rfl rfl rfl ?_
    refine sq.e ?_
    by_cases c1_6 : ((((s).data.toList.length : Nat) : Int)) < p
    · exfalso
      omega
    · rw [decide_eq_false c1_6]
      refine AWp.condF rfl rfl ?_
      refine AWp.skip ?_
      refine AWp.seq ?_
      refine AWp.rowV (l := _) pok ?_
      refine sq.c (v := .int .i64 (0)) rfl rfl rfl rfl ?_
      refine sq.e ?_
      refine AWp.seq ?_
      refine AWp.label ?_
      refine AWp.seq ?_
      refine AWp.block ?_
      refine AWp.loopV (fun d vs h' n2 => ∃ (i a : Int), d = (10 - i).toNat ∧ h = h' ∧ n ≤ n2 ∧ Free h n2 ∧ (0 ≤ i) ∧ (i ≤ 9) ∧ (p + i ≤ (s.data.toList.length : Nat)) ∧ (0 ≤ a) ∧ (a < p128 i) ∧ (rdN s p = shR (rdU (s.data.toList.drop (p + i).toNat) i.toNat) a.toNat i.toNat) ∧ ∃ y1 : Nat → Value, vs = [.string (s), .int .i64 (p), undef, undef, .int .u64 (a), (y1 5), (y1 6), .int .i64 (i), (y1 8), .int .i64 (p), .bool false, .bool false, .int .i64 (p), .string (s), .int .i64 ((((s).data.toList.length : Nat) : Int)), .bool false, .bool false, (y1 17), (y1 18), (y1 19), (y1 20), (y1 21), (y1 22), (y1 23), (y1 24), (y1 25), (y1 26), (y1 27), (y1 28), (y1 29), (y1 30), (y1 31), (y1 32), (y1 33), (y1 34), (y1 35), (y1 36), (y1 37), (y1 38), (y1 39), (y1 40), (y1 41), (y1 42), (y1 43), (y1 44), (y1 45), (y1 46), (y1 47), (y1 48), (y1 49), (y1 50), (y1 51), (y1 52), (y1 53), undef, undef, undef, undef, undef]) (10) ⟨0, 0, rfl, rfl, hn, hf, (by omega), (by omega), (by omega), (by omega), (by decide), (by rw [Int.add_zero]; exact shR_zero _), getV [undef, undef, undef, undef, undef, .int .i64 (0), .int .i64 (0), undef, undef, undef, undef, undef, undef, undef, undef, undef, undef, undef, undef, undef, undef, undef, undef, undef, undef, undef, undef, undef, undef, undef, undef, undef, undef, undef, undef, undef, undef, undef, undef, undef, undef, undef, undef, undef, undef, undef, undef, undef, undef, undef, undef, undef, undef, undef], rfl⟩ ?_
      rintro d vs h' n2 ⟨i, a, rfl, rfl, hn, hf, hi0, hi9, hpi, ha0, ha1, hq, y1, rfl⟩
      have hbt := bt_lt s (p + i)
      have hpw := p128_le hi0 hi9
      refine AWp.seq ?_
      refine AWp.block ?_
      refine AWp.seq ?_
      refine AWp.seq ?_
      refine AWp.rowV (l := _) pok ?_
      refine sq.c (v := .int .i64 (p)) rfl rfl rfl rfl ?_
      refine sq.c (v := .int .i64 (i)) rfl rfl rfl rfl ?_
      refine sq.c (v := .int .i64 (p + i)) rfl rfl (okI (wrap_i64 (by omega) (by omega))) rfl ?_
      refine sq.c (v := .string (s)) rfl rfl rfl rfl ?_
      refine sq.c (v := .int .i64 ((((s).data.toList.length : Nat) : Int))) rfl rfl (by kernel_rfl) rfl ?_
      refine sq.c (v := .bool (decide ((p + i) = ((((s).data.toList.length : Nat) : Int))))) rfl rfl rfl rfl ?_
      refine sq.e ?_
      by_cases c5_5 : (p + i) = ((((s).data.toList.length : Nat) : Int))
      · rw [decide_eq_true c5_5]
        refine AWp.condT rfl rfl ?_
        refine AWp.seq ?_
        refine AWp.rowV (l := _) pok ?_
        refine sq.c (v := .int .u64 (0)) rfl rfl rfl rfl ?_
        refine sq.c (v := .int .i64 (0)) rfl rfl rfl rfl ?_
        refine sq.c (v := .int .i64 (8)) rfl rfl rfl rfl ?_
        refine sq.e ?_
        refine AWp.ret ?_
        -- end 1: ¬c1_1 ¬c1_6 L5 c5_5
        refine ⟨rfl, [.int .u64 (0), .int .i64 (0), .int .i64 (8)], rfl, .tuple #[.int .u64 (0), .int .i64 (0), .int .i64 (8)], rfl, hs, hn, ?_⟩
        rw [hq, shR_end c5_5]
        rfl
      · rw [decide_eq_false c5_5]
        refine AWp.condF rfl rfl ?_
        refine AWp.skip ?_
        refine AWp.seq ?_
        refine AWp.rowV (l := _) pok ?_
        refine sq.c (v := .string (s)) rfl rfl rfl rfl ?_
        refine sq.c (v := .int .i64 (p)) rfl rfl rfl rfl ?_
        refine sq.c (v := .int .i64 (i)) rfl rfl rfl rfl ?_
        refine sq.c (v := .int .i64 (p + i)) rfl rfl (okI (wrap_i64 (by omega) (by omega))) rfl ?_
        refine sq.c (v := .int .u8 (bt (s) (p + i))) rfl rfl (index_str (P := Tryz.prog) (t := 9) (s := s) (i := p + i) (k := .i64) (by kernel_rfl) (by omega) (by omega)) rfl ?_
        refine sq.c (v := .int .u64 (bt (s) (p + i))) rfl rfl (Eq.trans (b := some (.int .u64 (IntKind.u64.wrap (bt (s) (p + i))))) (by kernel_rfl) (okI (wrap_u64 (by omega) (by omega)))) rfl ?_
        refine sq.c (v := .int .u64 (bt (s) (p + i))) rfl rfl rfl rfl ?_
        refine sq.e ?_
        refine AWp.seq ?_
        refine AWp.block ?_
        refine AWp.seq ?_
        refine AWp.rowV (l := _) pok ?_
        refine sq.c (v := .int .i64 (i)) rfl rfl rfl rfl ?_
        refine sq.c (v := .bool (decide (i = (9 : Int)))) rfl rfl rfl rfl ?_
        refine sq.c (v := .bool (decide (i = (9 : Int)))) rfl rfl rfl rfl ?_
        by_cases c8_1 : i = (9 : Int)
        · rw [decide_eq_true c8_1]
          refine sq.c (v := .int .u64 (bt (s) (p + i))) (wantT (g := 2) (d := 34) rfl rfl rfl) rfl rfl rfl ?_
          refine sq.c (v := .bool (decide ((1 : Int) < (bt (s) (p + i))))) (wantT (g := 2) (d := 34) rfl rfl rfl) rfl rfl rfl ?_
          refine sq.c (v := .bool (decide ((1 : Int) < (bt (s) (p + i))))) rfl rfl rfl rfl ?_
          refine sq.c (v := .bool (decide ((1 : Int) < (bt (s) (p + i))))) rfl rfl rfl rfl ?_
          refine sq.e ?_
          by_cases c8_4 : (1 : Int) < (bt (s) (p + i))
          · rw [decide_eq_true c8_4]
            refine AWp.condT rfl rfl ?_
            refine AWp.seq ?_
            refine AWp.rowV (l := _) pok ?_
            refine sq.c (v := .int .u64 (0)) rfl rfl rfl rfl ?_
            refine sq.c (v := .int .i64 (0)) rfl rfl rfl rfl ?_
            refine sq.c (v := .int .i64 (4)) rfl rfl rfl rfl ?_
            refine sq.e ?_
            refine AWp.ret ?_
            -- end 2: ¬c1_1 ¬c1_6 L5 ¬c5_5 c8_1 c8_4
            refine ⟨rfl, [.int .u64 (0), .int .i64 (0), .int .i64 (4)], rfl, .tuple #[.int .u64 (0), .int .i64 (0), .int .i64 (4)], rfl, hs, hn, ?_⟩
            rw [hq, shR_bad (by omega) (by omega) c8_1 c8_4]
            rfl
          · rw [decide_eq_false c8_4]
            refine AWp.condF rfl rfl ?_
            refine AWp.seq ?_
            refine AWp.rowV (l := _) pok ?_
            refine sq.c (v := .int .u64 (bt (s) (p + i))) rfl rfl rfl rfl ?_
            refine sq.c (v := .bool (decide ((bt (s) (p + i)) < (128 : Int)))) rfl rfl rfl rfl ?_
            refine sq.c (v := .bool (decide ((bt (s) (p + i)) < (128 : Int)))) rfl rfl rfl rfl ?_
            refine sq.e ?_
            by_cases c10_1 : (bt (s) (p + i)) < (128 : Int)
            · rw [decide_eq_true c10_1]
              refine AWp.condT rfl rfl ?_
              refine AWp.seq ?_
              refine AWp.rowV (l := _) pok ?_
              refine sq.c (v := .int .u64 (a)) rfl rfl rfl rfl ?_
              refine sq.c (v := .int .u64 (bt (s) (p + i))) rfl rfl rfl rfl ?_
              refine sq.c (v := .int .i64 (i)) rfl rfl rfl rfl ?_
              refine sq.c (v := .int .i64 (7 * i)) rfl rfl (okI (wrap_i64 (by omega) (by omega))) rfl ?_
              refine sq.c (v := .int .u64 ((bt (s) (p + i)) * p128 i)) rfl rfl (shl_seven (t := 0) (cx := false) (cy := false) (by omega) (by omega) (by omega) (by omega) (by omega)) rfl ?_
              refine sq.c (v := .int .u64 (a + (bt (s) (p + i)) * p128 i)) rfl rfl (or_seven (t := 0) (cx := false) (cy := false) (by omega) (by omega) (by omega) (by omega) (by omega) (by omega) (by omega)) rfl ?_
              refine sq.c (v := .int .u64 (a + (bt (s) (p + i)) * p128 i)) rfl rfl rfl rfl ?_
              refine sq.e ?_
              refine AWp.exit ?_
              refine AWp.seq ?_
              refine AWp.rowV (l := _) pok ?_
              refine sq.c (v := .int .u64 (a + (bt (s) (p + i)) * p128 i)) rfl rfl rfl rfl ?_
              refine sq.c (v := .int .i64 (p)) rfl rfl rfl rfl ?_
              refine sq.c (v := .int .i64 (i)) rfl rfl rfl rfl ?_
              refine sq.c (v := .int .i64 (p + i)) rfl rfl (okI (wrap_i64 (by omega) (by omega))) rfl ?_
              refine sq.c (v := .int .i64 ((p + i) + 1)) rfl rfl (okI (wrap_i64 (by omega) (by omega))) rfl ?_
              refine sq.c (v := .int .u64 (a + (bt (s) (p + i)) * p128 i)) rfl rfl rfl rfl ?_
              refine sq.c (v := .int .i64 ((p + i) + 1)) rfl rfl rfl rfl ?_
              refine sq.c (v := .int .i64 (0)) rfl rfl rfl rfl ?_
              refine sq.e ?_
              refine AWp.ret ?_
              -- end 3: ¬c1_1 ¬c1_6 L5 ¬c5_5 c8_1 ¬c8_4 c10_1
              refine ⟨rfl, [.int .u64 (a + (bt (s) (p + i)) * p128 i), .int .i64 ((p + i) + 1), .int .i64 (0)], rfl, .tuple #[.int .u64 (a + (bt (s) (p + i)) * p128 i), .int .i64 ((p + i) + 1), .int .i64 (0)], rfl, hs, hn, ?_⟩
              rw [hq, shR_last (by omega) (by omega) hi0 ha0 c10_1 (by omega)]
              obtain ⟨m, hm, _⟩ := mul_nat (b := bt s (p + i)) (i := i) (by omega)
              exact tup3 (by show _ = ((_ : Nat) : Int); omega) (by show _ = p + ((_ : Nat) : Int); omega) rfl
            · exfalso
              omega
        · rw [decide_eq_false c8_1]
          refine sq.s (wantF (g := 2) (d := 34) rfl rfl rfl) rfl ?_
          refine sq.s (wantF (g := 2) (d := 34) rfl rfl rfl) rfl ?_
          refine sq.c (v := .bool false) rfl rfl rfl rfl ?_
          refine sq.c (v := .bool false) rfl rfl rfl rfl ?_
          refine sq.e ?_
          refine AWp.condF rfl rfl ?_
          refine AWp.seq ?_
          refine AWp.rowV (l := _) pok ?_
          refine sq.c (v := .int .u64 (bt (s) (p + i))) rfl rfl rfl rfl ?_
          refine sq.c (v := .bool (decide ((bt (s) (p + i)) < (128 : Int)))) rfl rfl rfl rfl ?_
          refine sq.c (v := .bool (decide ((bt (s) (p + i)) < (128 : Int)))) rfl rfl rfl rfl ?_
          refine sq.e ?_
          by_cases c10_1 : (bt (s) (p + i)) < (128 : Int)
          · rw [decide_eq_true c10_1]
            refine AWp.condT rfl rfl ?_
            refine AWp.seq ?_
            refine AWp.rowV (l := _) pok ?_
            refine sq.c (v := .int .u64 (a)) rfl rfl rfl rfl ?_
            refine sq.c (v := .int .u64 (bt (s) (p + i))) rfl rfl rfl rfl ?_
            refine sq.c (v := .int .i64 (i)) rfl rfl rfl rfl ?_
            refine sq.c (v := .int .i64 (7 * i)) rfl rfl (okI (wrap_i64 (by omega) (by omega))) rfl ?_
            refine sq.c (v := .int .u64 ((bt (s) (p + i)) * p128 i)) rfl rfl (shl_seven (t := 0) (cx := false) (cy := false) (by omega) (by omega) (by omega) (by omega) (by omega)) rfl ?_
            refine sq.c (v := .int .u64 (a + (bt (s) (p + i)) * p128 i)) rfl rfl (or_seven (t := 0) (cx := false) (cy := false) (by omega) (by omega) (by omega) (by omega) (by omega) (by omega) (by omega)) rfl ?_
            refine sq.c (v := .int .u64 (a + (bt (s) (p + i)) * p128 i)) rfl rfl rfl rfl ?_
            refine sq.e ?_
            refine AWp.exit ?_
            refine AWp.seq ?_
            refine AWp.rowV (l := _) pok ?_
            refine sq.c (v := .int .u64 (a + (bt (s) (p + i)) * p128 i)) rfl rfl rfl rfl ?_
            refine sq.c (v := .int .i64 (p)) rfl rfl rfl rfl ?_
            refine sq.c (v := .int .i64 (i)) rfl rfl rfl rfl ?_
            refine sq.c (v := .int .i64 (p + i)) rfl rfl (okI (wrap_i64 (by omega) (by omega))) rfl ?_
            refine sq.c (v := .int .i64 ((p + i) + 1)) rfl rfl (okI (wrap_i64 (by omega) (by omega))) rfl ?_
            refine sq.c (v := .int .u64 (a + (bt (s) (p + i)) * p128 i)) rfl rfl rfl rfl ?_
            refine sq.c (v := .int .i64 ((p + i) + 1)) rfl rfl rfl rfl ?_
            refine sq.c (v := .int .i64 (0)) rfl rfl rfl rfl ?_
            refine sq.e ?_
            refine AWp.ret ?_
            -- end 4: ¬c1_1 ¬c1_6 L5 ¬c5_5 ¬c8_1 c10_1
            refine ⟨rfl, [.int .u64 (a + (bt (s) (p + i)) * p128 i), .int .i64 ((p + i) + 1), .int .i64 (0)], rfl, .tuple #[.int .u64 (a + (bt (s) (p + i)) * p128 i), .int .i64 ((p + i) + 1), .int .i64 (0)], rfl, hs, hn, ?_⟩
            rw [hq, shR_last (by omega) (by omega) hi0 ha0 c10_1 (by omega)]
            obtain ⟨m, hm, _⟩ := mul_nat (b := bt s (p + i)) (i := i) (by omega)
            exact tup3 (by show _ = ((_ : Nat) : Int); omega) (by show _ = p + ((_ : Nat) : Int); omega) rfl
          · rw [decide_eq_false c10_1]
            refine AWp.condF rfl rfl ?_
            refine AWp.skip ?_
            refine AWp.rowV (l := _) pok ?_
            refine sq.c (v := .int .u64 (a)) rfl rfl rfl rfl ?_
            refine sq.c (v := .int .u64 (bt (s) (p + i))) rfl rfl rfl rfl ?_
            refine sq.c (v := .int .u64 (bt (s) (p + i) - 128)) rfl rfl (clr_hi (t := 0) (cx := false) (cy := false) (by omega) (by omega)) rfl ?_
            refine sq.c (v := .int .i64 (i)) rfl rfl rfl rfl ?_
            refine sq.c (v := .int .i64 (7 * i)) rfl rfl (okI (wrap_i64 (by omega) (by omega))) rfl ?_
            refine sq.c (v := .int .u64 ((bt (s) (p + i) - 128) * p128 i)) rfl rfl (shl_seven (t := 0) (cx := false) (cy := false) (by omega) (by omega) (by omega) (by omega) (by omega)) rfl ?_
            refine sq.c (v := .int .u64 (a + (bt (s) (p + i) - 128) * p128 i)) rfl rfl (or_seven (t := 0) (cx := false) (cy := false) (by omega) (by omega) (by omega) (by omega) (by omega) (by omega) (by omega)) rfl ?_
            refine sq.c (v := .int .u64 (a + (bt (s) (p + i) - 128) * p128 i)) rfl rfl rfl rfl ?_
            refine sq.e ?_
            refine AWp.rowV (l := _) pok ?_
            refine sq.c (v := .int .i64 (i)) rfl rfl rfl rfl ?_
            refine sq.c (v := .int .i64 (i + 1)) rfl rfl (okI (wrap_i64 (by omega) (by omega))) rfl ?_
            refine sq.c (v := .int .i64 (i + 1)) rfl rfl rfl rfl ?_
            refine sq.e ?_
            obtain ⟨m, hm, _⟩ := mul_nat (b := bt s (p + i) - 128) (i := i) (by omega)
            have hP := p128_pos i
            have hS := p128_succ hi0
            have hM : (bt s (p + i) - 128) * p128 i ≤ 127 * p128 i := Int.mul_le_mul_of_nonneg_right (by omega) (by omega)
            refine ⟨_, _, rfl, by omega, i + 1, a + (bt s (p + i) - 128) * p128 i, rfl, rfl, hn, hf, (by omega), (by omega), (by omega), (by omega), (by rw [hS]; omega), (by rw [hq, shR_more (by omega) (by omega) hi0 ha0 (by omega) (by omega), Int.add_assoc]), getV [undef, undef, undef, undef, undef, (y1 5), (y1 6), undef, .int .u64 (bt (s) (p + i)), undef, undef, undef, undef, undef, undef, undef, undef, .int .i64 (i), .int .i64 (i + 1), .int .i64 (p), .int .i64 (i), .int .i64 (p + i), .string (s), .int .i64 ((((s).data.toList.length : Nat) : Int)), .bool false, .string (s), .int .i64 (p), .int .i64 (i), .int .i64 (p + i), .int .u8 (bt (s) (p + i)), .int .u64 (bt (s) (p + i)), .bool false, .int .i64 (i), .bool false, .bool false, undef, undef, .bool false, .bool false, .int .u64 (bt (s) (p + i)), .bool false, (y1 41), (y1 42), (y1 43), (y1 44), (y1 45), (y1 46), .int .u64 (a), .int .u64 (bt (s) (p + i)), .int .u64 (bt (s) (p + i) - 128), .int .i64 (i), .int .i64 (7 * i), .int .u64 ((bt (s) (p + i) - 128) * p128 i), .int .u64 (a + (bt (s) (p + i) - 128) * p128 i)], rfl⟩

/-- baton/batonref01.Read -/
theorem f103_spec {h : Heap} {n : Nat} (s : ByteArray) (hls : s.data.toList.length < 9223372036854775807) :
    Tells Tryz.prog 103 [.string (s)] h n (.tuple #[.int .u64 (exN (rdU s.data.toList 0)), .int .i64 (exK (rdU s.data.toList 0)), .int .i64 (exE (rdU s.data.toList 0))]) := by
  refine Makes.tells (Makes.free fun hf => ?_)
  have hs : SubBut h h ([]) := .refl _ _
  have hn : n ≤ n := Nat.le_refl _
  have hf0 := hf
  refine Makes.of_bodyV (args := [.string (s)]) (vs := [.string (s), undef, undef, undef, undef, undef, undef, undef, undef, undef, undef, undef, undef, undef, undef, undef, undef, undef, undef, undef, undef, undef, undef, undef, undef, undef, undef, undef, undef, undef, undef, undef, undef, undef, undef, undef, undef, undef, undef, undef]) Tryz.func103 rfl rfl ?_
  refine AWp.seq ?_
  refine AWp.rowV (l := _) pok ?_
  refine sq.c (v := .int .u64 (0)) rfl rfl rfl rfl ?_
  refine sq.c (v := .int .i64 (0)) rfl rfl rfl rfl ?_
  refine sq.c (v := .int .i64 (0)) rfl rfl rfl rfl ?_
  refine sq.e ?_
  refine AWp.seq ?_
  refine AWp.rowV (l := _) pok ?_
  refine sq.c (v := .int .u64 (0)) rfl rfl rfl rfl ?_
  refine sq.c (v := .int .u64 (1)) rfl rfl rfl rfl ?_
  refine sq.e ?_
  refine AWp.seq ?_
  refine AWp.rowV (l := _) pok ?_
  refine sq.c (v := .int .i64 (0)) rfl rfl rfl rfl ?_
  refine sq.e ?_
  refine AWp.block ?_
  refine AWp.loopV (fun d vs h' n2 => ∃ (i a tm : Int), d = (10 - i).toNat ∧ h = h' ∧ n ≤ n2 ∧ Free h n2 ∧ (0 ≤ i) ∧ (i ≤ 9) ∧ (i ≤ (s.data.toList.length : Nat)) ∧ (0 ≤ a) ∧ (a < p128 i) ∧ (tm = p128 i) ∧ (rdU s.data.toList 0 = shR (rdU (s.data.toList.drop i.toNat) i.toNat) a.toNat i.toNat) ∧ ∃ y1 : Nat → Value, vs = [.string (s), undef, (y1 2), (y1 3), (y1 4), .int .u64 (a), .int .u64 (tm), .int .i64 (i), (y1 8), (y1 9), (y1 10), (y1 11), (y1 12), (y1 13), (y1 14), (y1 15), (y1 16), (y1 17), (y1 18), (y1 19), (y1 20), (y1 21), (y1 22), (y1 23), (y1 24), (y1 25), (y1 26), (y1 27), (y1 28), (y1 29), (y1 30), (y1 31), (y1 32), (y1 33), (y1 34), (y1 35), (y1 36), (y1 37), (y1 38), (y1 39)]) (10) ⟨0, 0, 1, rfl, rfl, hn, hf, (by omega), (by omega), (by omega), (by omega), (by decide), (by decide), (shR_zero _), getV [undef, undef, .int .u64 (0), .int .i64 (0), .int .i64 (0), undef, undef, undef, undef, undef, undef, undef, undef, undef, undef, undef, undef, undef, undef, undef, undef, undef, undef, undef, undef, undef, undef, undef, undef, undef, undef, undef, undef, undef, undef, undef, undef, undef, undef, undef], rfl⟩ ?_
  rintro d vs h' n2 ⟨i, a, tm, rfl, rfl, hn, hf, hi0, hi9, hpi, ha0, ha1, htm, hq, y1, rfl⟩
  have hbt := bt_lt s i
  have hpw := p128_le hi0 hi9
  refine AWp.seq ?_
  refine AWp.block ?_
  refine AWp.seq ?_
  refine AWp.seq ?_
  refine AWp.rowV (l := _) pok ?_
  refine sq.c (v := .int .i64 (i)) rfl rfl rfl rfl ?_
  refine sq.c (v := .string (s)) rfl rfl rfl rfl ?_
  refine sq.c (v := .int .i64 ((((s).data.toList.length : Nat) : Int))) rfl rfl (by kernel_rfl) rfl ?_
  refine sq.c (v := .bool (decide (((((s).data.toList.length : Nat) : Int)) ≤ i))) rfl rfl rfl rfl ?_
  refine sq.e ?_
  by_cases c4_3 : ((((s).data.toList.length : Nat) : Int)) ≤ i
  · rw [decide_eq_true c4_3]
    refine AWp.condT rfl rfl ?_
    refine AWp.seq ?_
    refine AWp.rowV (l := _) pok ?_
    refine sq.c (v := .int .u64 (0)) rfl rfl rfl rfl ?_
    refine sq.c (v := .int .i64 (0)) rfl rfl rfl rfl ?_
    refine sq.c (v := .int .i64 (8)) rfl rfl rfl rfl ?_
    refine sq.e ?_
    refine AWp.ret ?_
    -- end 1: L4 c4_3
    refine ⟨rfl, [.int .u64 (0), .int .i64 (0), .int .i64 (8)], rfl, .tuple #[.int .u64 (0), .int .i64 (0), .int .i64 (8)], rfl, hs, hn, ?_⟩
    rw [hq, shR_end (by omega)]
    rfl
  · rw [decide_eq_false c4_3]
    refine AWp.condF rfl rfl ?_
    refine AWp.skip ?_
    refine AWp.seq ?_
    refine AWp.seq ?_
    refine AWp.rowV (l := _) pok ?_
    refine sq.c (v := .int .i64 (i)) rfl rfl rfl rfl ?_
    refine sq.c (v := .bool (decide (i = (9 : Int)))) rfl rfl rfl rfl ?_
    refine sq.c (v := .bool (decide (i = (9 : Int)))) rfl rfl rfl rfl ?_
    by_cases c6_1 : i = (9 : Int)
    · rw [decide_eq_true c6_1]
      refine sq.c (v := .string (s)) (wantT (g := 2) (d := 16) rfl rfl rfl) rfl rfl rfl ?_
      refine sq.c (v := .int .i64 (i)) (wantT (g := 2) (d := 16) rfl rfl rfl) rfl rfl rfl ?_
      refine sq.c (v := .int .u8 (bt (s) (i))) (wantT (g := 2) (d := 16) rfl rfl rfl) rfl (index_str (P := Tryz.prog) (t := 9) (s := s) (i := i) (k := .i64) (by kernel_rfl) (by omega) (by omega)) rfl ?_
      refine sq.c (v := .bool (decide ((1 : Int) < (bt (s) (i))))) (wantT (g := 2) (d := 16) rfl rfl rfl) rfl rfl rfl ?_
      refine sq.c (v := .bool (decide ((1 : Int) < (bt (s) (i))))) rfl rfl rfl rfl ?_
      refine sq.e ?_
      by_cases c6_6 : (1 : Int) < (bt (s) (i))
      · rw [decide_eq_true c6_6]
        refine AWp.condT rfl rfl ?_
        refine AWp.seq ?_
        refine AWp.rowV (l := _) pok ?_
        refine sq.c (v := .int .u64 (0)) rfl rfl rfl rfl ?_
        refine sq.c (v := .int .i64 (0)) rfl rfl rfl rfl ?_
        refine sq.c (v := .int .i64 (4)) rfl rfl rfl rfl ?_
        refine sq.e ?_
        refine AWp.ret ?_
        -- end 2: L4 ¬c4_3 c6_1 c6_6
        refine ⟨rfl, [.int .u64 (0), .int .i64 (0), .int .i64 (4)], rfl, .tuple #[.int .u64 (0), .int .i64 (0), .int .i64 (4)], rfl, hs, hn, ?_⟩
        rw [hq, shR_bad hi0 (by omega) c6_1 c6_6]
        rfl
      · rw [decide_eq_false c6_6]
        refine AWp.condF rfl rfl ?_
        refine AWp.skip ?_
        refine AWp.seq ?_
        refine AWp.rowV (l := _) pok ?_
        refine sq.c (v := .int .u64 (a)) rfl rfl rfl rfl ?_
        refine sq.c (v := .int .u64 (tm)) rfl rfl rfl rfl ?_
        refine sq.c (v := .string (s)) rfl rfl rfl rfl ?_
        refine sq.c (v := .int .i64 (i)) rfl rfl rfl rfl ?_
        refine sq.c (v := .int .u8 (bt (s) (i))) rfl rfl (index_str (P := Tryz.prog) (t := 9) (s := s) (i := i) (k := .i64) (by kernel_rfl) (by omega) (by omega)) rfl ?_
        refine sq.c (v := .int .u8 ((bt (s) (i)) % 128)) rfl rfl (okI (Int.tmod_eq_emod_of_nonneg (by omega))) rfl ?_
        refine sq.c (v := .int .u64 ((bt (s) (i)) % 128)) rfl rfl (Eq.trans (b := some (.int .u64 (IntKind.u64.wrap ((bt (s) (i)) % 128)))) (by kernel_rfl) (okI (wrap_u64 (by omega) (by omega)))) rfl ?_
        have hfit := add_fits2 (a := a) (b := bt s i % 128) hi0 hi9 ha0 ha1 (by omega) (by omega) (by omega)
        rw [← htm] at hfit
        refine sq.c (v := .int .u64 ((bt s i % 128) * tm)) rfl rfl (okI (Eq.trans (congrArg _ (Int.mul_comm _ _)) (wrap_u64 (by omega) (by omega)))) rfl ?_
        refine sq.c (v := .int .u64 (a + ((bt s i % 128) * tm))) rfl rfl (okI (wrap_u64 (by omega) (by omega))) rfl ?_
        refine sq.c (v := .int .u64 (a + ((bt s i % 128) * tm))) rfl rfl rfl rfl ?_
        refine sq.e ?_
        refine AWp.seq ?_
        refine AWp.rowV (l := _) pok ?_
        refine sq.c (v := .int .u64 (tm)) rfl rfl rfl rfl ?_
        refine sq.c (v := .int .u64 (IntKind.u64.wrap (tm * 128))) rfl rfl rfl rfl ?_
        refine sq.c (v := .int .u64 (IntKind.u64.wrap (tm * 128))) rfl rfl rfl rfl ?_
        refine sq.e ?_
        refine AWp.seq ?_
        refine AWp.rowV (l := _) pok ?_
        refine sq.c (v := .string (s)) rfl rfl rfl rfl ?_
        refine sq.c (v := .int .i64 (i)) rfl rfl rfl rfl ?_
        refine sq.c (v := .int .u8 (bt (s) (i))) rfl rfl (index_str (P := Tryz.prog) (t := 9) (s := s) (i := i) (k := .i64) (by kernel_rfl) (by omega) (by omega)) rfl ?_
        refine sq.c (v := .bool (decide ((bt (s) (i)) < (128 : Int)))) rfl rfl rfl rfl ?_
        refine sq.e ?_
        by_cases c10_3 : (bt (s) (i)) < (128 : Int)
        · rw [decide_eq_true c10_3]
          refine AWp.condT rfl rfl ?_
          refine AWp.seq ?_
          refine AWp.rowV (l := _) pok ?_
          refine sq.c (v := .int .u64 (a + ((bt s i % 128) * tm))) rfl rfl rfl rfl ?_
          refine sq.c (v := .int .i64 (i)) rfl rfl rfl rfl ?_
          refine sq.c (v := .int .i64 (i + 1)) rfl rfl (okI (wrap_i64 (by omega) (by omega))) rfl ?_
          refine sq.c (v := .int .u64 (a + ((bt s i % 128) * tm))) rfl rfl rfl rfl ?_
          refine sq.c (v := .int .i64 (i + 1)) rfl rfl rfl rfl ?_
          refine sq.c (v := .int .i64 (0)) rfl rfl rfl rfl ?_
          refine sq.e ?_
          refine AWp.ret ?_
          -- end 3: L4 ¬c4_3 c6_1 ¬c6_6 c10_3
          refine ⟨rfl, [.int .u64 (a + ((bt s i % 128) * tm)), .int .i64 (i + 1), .int .i64 (0)], rfl, .tuple #[.int .u64 (a + ((bt s i % 128) * tm)), .int .i64 (i + 1), .int .i64 (0)], rfl, hs, hn, ?_⟩
          rw [hq, shR_last hi0 (by omega) hi0 ha0 c10_3 (by omega), htm, show bt s i % 128 = bt s i by omega]
          obtain ⟨m, hm, _⟩ := mul_nat (b := bt s i) (i := i) (by omega)
          exact tup3 (by show _ = ((_ : Nat) : Int); omega) (by show _ = ((_ : Nat) : Int); omega) rfl
        · exfalso
          omega
    · rw [decide_eq_false c6_1]
      refine sq.s (wantF (g := 2) (d := 16) rfl rfl rfl) rfl ?_
      refine sq.s (wantF (g := 2) (d := 16) rfl rfl rfl) rfl ?_
      refine sq.s (wantF (g := 2) (d := 16) rfl rfl rfl) rfl ?_
      refine sq.s (wantF (g := 2) (d := 16) rfl rfl rfl) rfl ?_
      refine sq.c (v := .bool false) rfl rfl rfl rfl ?_
      refine sq.e ?_
      refine AWp.condF rfl rfl ?_
      refine AWp.skip ?_
      refine AWp.seq ?_
      refine AWp.rowV (l := _) pok ?_
      refine sq.c (v := .int .u64 (a)) rfl rfl rfl rfl ?_
      refine sq.c (v := .int .u64 (tm)) rfl rfl rfl rfl ?_
      refine sq.c (v := .string (s)) rfl rfl rfl rfl ?_
      refine sq.c (v := .int .i64 (i)) rfl rfl rfl rfl ?_
      refine sq.c (v := .int .u8 (bt (s) (i))) rfl rfl (index_str (P := Tryz.prog) (t := 9) (s := s) (i := i) (k := .i64) (by kernel_rfl) (by omega) (by omega)) rfl ?_
      refine sq.c (v := .int .u8 ((bt (s) (i)) % 128)) rfl rfl (okI (Int.tmod_eq_emod_of_nonneg (by omega))) rfl ?_
      refine sq.c (v := .int .u64 ((bt (s) (i)) % 128)) rfl rfl (Eq.trans (b := some (.int .u64 (IntKind.u64.wrap ((bt (s) (i)) % 128)))) (by kernel_rfl) (okI (wrap_u64 (by omega) (by omega)))) rfl ?_
      have hfit := add_fits2 (a := a) (b := bt s i % 128) hi0 hi9 ha0 ha1 (by omega) (by omega) (by omega)
      rw [← htm] at hfit
      refine sq.c (v := .int .u64 ((bt s i % 128) * tm)) rfl rfl (okI (Eq.trans (congrArg _ (Int.mul_comm _ _)) (wrap_u64 (by omega) (by omega)))) rfl ?_
      refine sq.c (v := .int .u64 (a + ((bt s i % 128) * tm))) rfl rfl (okI (wrap_u64 (by omega) (by omega))) rfl ?_
      refine sq.c (v := .int .u64 (a + ((bt s i % 128) * tm))) rfl rfl rfl rfl ?_
      refine sq.e ?_
      refine AWp.seq ?_
      refine AWp.rowV (l := _) pok ?_
      refine sq.c (v := .int .u64 (tm)) rfl rfl rfl rfl ?_
      refine sq.c (v := .int .u64 (IntKind.u64.wrap (tm * 128))) rfl rfl rfl rfl ?_
      refine sq.c (v := .int .u64 (IntKind.u64.wrap (tm * 128))) rfl rfl rfl rfl ?_
      refine sq.e ?_
      refine AWp.seq ?_
      refine AWp.rowV (l := _) pok ?_
      refine sq.c (v := .string (s)) rfl rfl rfl rfl ?_
      refine sq.c (v := .int .i64 (i)) rfl rfl rfl rfl ?_
      refine sq.c (v := .int .u8 (bt (s) (i))) rfl rfl (index_str (P := Tryz.prog) (t := 9) (s := s) (i := i) (k := .i64) (by kernel_rfl) (by omega) (by omega)) rfl ?_
      refine sq.c (v := .bool (decide ((bt (s) (i)) < (128 : Int)))) rfl rfl rfl rfl ?_
      refine sq.e ?_
      by_cases c10_3 : (bt (s) (i)) < (128 : Int)
      · rw [decide_eq_true c10_3]
        refine AWp.condT rfl rfl ?_
        refine AWp.seq ?_
        refine AWp.rowV (l := _) pok ?_
        refine sq.c (v := .int .u64 (a + ((bt s i % 128) * tm))) rfl rfl rfl rfl ?_
        refine sq.c (v := .int .i64 (i)) rfl rfl rfl rfl ?_
        refine sq.c (v := .int .i64 (i + 1)) rfl rfl (okI (wrap_i64 (by omega) (by omega))) rfl ?_
        refine sq.c (v := .int .u64 (a + ((bt s i % 128) * tm))) rfl rfl rfl rfl ?_
        refine sq.c (v := .int .i64 (i + 1)) rfl rfl rfl rfl ?_
        refine sq.c (v := .int .i64 (0)) rfl rfl rfl rfl ?_
        refine sq.e ?_
        refine AWp.ret ?_
        -- end 4: L4 ¬c4_3 ¬c6_1 c10_3
        refine ⟨rfl, [.int .u64 (a + ((bt s i % 128) * tm)), .int .i64 (i + 1), .int .i64 (0)], rfl, .tuple #[.int .u64 (a + ((bt s i % 128) * tm)), .int .i64 (i + 1), .int .i64 (0)], rfl, hs, hn, ?_⟩
        rw [hq, shR_last hi0 (by omega) hi0 ha0 c10_3 (by omega), htm, show bt s i % 128 = bt s i by omega]
        obtain ⟨m, hm, _⟩ := mul_nat (b := bt s i) (i := i) (by omega)
        exact tup3 (by show _ = ((_ : Nat) : Int); omega) (by show _ = ((_ : Nat) : Int); omega) rfl
      · rw [decide_eq_false c10_3]
        refine AWp.condF rfl rfl ?_
        refine AWp.skip ?_
        refine AWp.rowV (l := _) pok ?_
        refine sq.c (v := .int .i64 (i)) rfl rfl rfl rfl ?_
        refine sq.c (v := .int .i64 (i + 1)) rfl rfl (okI (wrap_i64 (by omega) (by omega))) rfl ?_
        refine sq.c (v := .int .i64 (i + 1)) rfl rfl rfl rfl ?_
        refine sq.e ?_
        have hp8 := p128_le8 hi0 (by omega)
        have hS := p128_succ hi0
        have hM : (bt s i % 128) * p128 i ≤ 127 * p128 i := Int.mul_le_mul_of_nonneg_right (by omega) (by have := p128_pos i; omega)
        refine ⟨_, _, rfl, by omega, i + 1, a + (bt s i % 128) * tm, IntKind.u64.wrap (tm * 128), rfl, rfl, hn, hf, (by omega), (by omega), (by omega), (by omega), (by rw [hS, htm]; omega), (by rw [hS, htm]; exact wrap_u64 (by have := p128_pos i; omega) (by omega)), (by rw [hq, shR_more hi0 (by omega) hi0 ha0 (by omega) (by omega), htm, show bt s i - 128 = bt s i % 128 by omega]), getV [undef, undef, (y1 2), (y1 3), (y1 4), undef, undef, undef, .int .i64 (i), .int .i64 (i + 1), .int .i64 (i), .string (s), .int .i64 ((((s).data.toList.length : Nat) : Int)), .bool false, .int .i64 (i), .bool false, .bool false, undef, undef, undef, undef, .bool false, .int .u64 (a), .int .u64 (tm), .string (s), .int .i64 (i), .int .u8 (bt (s) (i)), .int .u8 ((bt (s) (i)) % 128), .int .u64 ((bt (s) (i)) % 128), .int .u64 ((bt s i % 128) * tm), .int .u64 (a + ((bt s i % 128) * tm)), .int .u64 (tm), .int .u64 (IntKind.u64.wrap (tm * 128)), .string (s), .int .i64 (i), .int .u8 (bt (s) (i)), .bool false, (y1 37), (y1 38), (y1 39)], rfl⟩

end Go.Proofs.YtkpjfibpaojelaaGreatDoor
