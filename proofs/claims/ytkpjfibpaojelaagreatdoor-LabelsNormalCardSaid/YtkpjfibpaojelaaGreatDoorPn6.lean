/- texts of the claim, part 6: LabX2 LabX3 LabShelf2 LabX4 LabX5 LabX6 LabX7 RuneCut LabX8 LabX9 LabX10 LabX11 LabX15. -/
import Derived.Test.YtkpjfibpaojelaaGreatDoorPn5
import Derived.Shelf.Strings.OnBuilder
import Derived.Shelf.Strings.SlTrimAscii
import Derived.Shelf.Small.Utf8
import Derived.Shelf.Small.Wraps
import Derived.Shelf.Strings.Search2
import Derived.Shelf.Strings.Prefix
import Derived.Test.YtkpjfibpaojelaaGreatDoorProg
namespace Go.Proofs.YtkpjfibpaojelaaGreatDoor
open Go Go.Abs
set_option maxRecDepth 100000
set_option maxHeartbeats 4000000
def PA (pa : Value) (b : Nat) : Prop := pa = .pointer none ∨ pa = .pointer (some ⟨b, 0, none⟩)
theorem f81_spec {h : Heap} {n b : Nat} {pa v : Value} (hb : h.get b = some (.cells [pa, v] true BCI)) (hpa : PA pa b) :
    Makes Tryz.prog 81 [.pointer (some ⟨b, 0, none⟩)] h n [b] fun u h2 _ => u = undef ∧ h2.get b = some (.cells [.pointer (some ⟨b, 0, none⟩), v] true BCI) := by
  rcases hpa with rfl | rfl
  · exact f81_nil hb
  · exact f81_own hb
def BAfter (h2 : Heap) (b : Nat) (v0 : Value) (n : Nat) (bs : List UInt8) : Prop :=
  ∃ (a2 : Option Addr) (cp2 : Nat), h2.get b = some (.cells [.pointer (some ⟨b, 0, none⟩), .slice a2 bs.length cp2] true BCI) ∧ OwnRow encByte 5 (Trie.nil : Heap) h2 (.slice a2 bs.length cp2) bs ∧
    (∀ c ∈ blkOf (.slice a2 bs.length cp2), c ∈ blkOf v0 ∨ n ≤ c) ∧ ∀ c ∈ blkOf (.slice a2 bs.length cp2), c ≠ b
theorem ofInt8 (n : Nat) : BitVec.ofInt 8 (n : Int) = BitVec.ofNat 8 n := by simp
theorem or_u8 {a b : Nat} (ha : a < 256) (hb : b < 256) {c : Bool} : binE Tryz.prog .or 5 c false (.int .u8 a) (.int .u8 b) = some (.int .u8 ((a ||| b : Nat) : Int)) := by
  have e : (BitVec.ofInt IntKind.u8.bits (a : Int) ||| BitVec.ofInt IntKind.u8.bits (b : Int)).toNat = a ||| b := by
    show (BitVec.ofInt 8 (a : Int) ||| BitVec.ofInt 8 (b : Int)).toNat = _
    rw [ofInt8, ofInt8, BitVec.toNat_or, BitVec.toNat_ofNat, BitVec.toNat_ofNat, Nat.mod_eq_of_lt ha, Nat.mod_eq_of_lt hb]
  have hlt : a ||| b < 256 := Nat.or_lt_two_pow (n := 8) ha hb
  show some (Value.int .u8 (IntKind.u8.wrap _)) = _
  rw [e, wrap_u8 (by omega) (by omega)]
theorem and_u8 {a b : Nat} (ha : a < 256) (hb : b < 256) {c : Bool} : binE Tryz.prog .and 5 false c (.int .u8 a) (.int .u8 b) = some (.int .u8 ((a &&& b : Nat) : Int)) := by
  have e : (BitVec.ofInt IntKind.u8.bits (a : Int) &&& BitVec.ofInt IntKind.u8.bits (b : Int)).toNat = a &&& b := by
    show (BitVec.ofInt 8 (a : Int) &&& BitVec.ofInt 8 (b : Int)).toNat = _
    rw [ofInt8, ofInt8, BitVec.toNat_and, BitVec.toNat_ofNat, BitVec.toNat_ofNat, Nat.mod_eq_of_lt ha, Nat.mod_eq_of_lt hb]
  have hlt : a &&& b < 256 := Nat.lt_of_le_of_lt Nat.and_le_left ha
  show some (Value.int .u8 (IntKind.u8.wrap _)) = _
  rw [e, wrap_u8 (by omega) (by omega)]
theorem and63 : ∀ x, x < 256 → x &&& 63 = x % 64 := by decide +kernel
theorem or128' : ∀ x, x < 64 → 128 ||| x = 128 + x := by decide +kernel
theorem or192 : ∀ x, x < 32 → 192 ||| x = 192 + x := by decide +kernel
theorem or224 : ∀ x, x < 16 → 224 ||| x = 224 + x := by decide +kernel
theorem or240 : ∀ x, x < 8 → 240 ||| x = 240 + x := by decide +kernel
theorem lo8_int {x : Int} (h0 : 0 ≤ x) (h1 : x < 256) : ((lo8 x).toNat : Int) = x := by
  unfold lo8
  rw [UInt8.toNat_ofNat']
  omega
theorem or_lead {k m : Nat} (hk : ∀ x, x < m → k ||| x = k + x) (hkm : k + m ≤ 256) {x : Int} (h0 : 0 ≤ x) (h1 : x < m) {c : Bool} : binE Tryz.prog .or 5 c false (.int .u8 (k : Int)) (.int .u8 x) = some (.int .u8 ((lo8 ((k : Int) + x)).toNat : Int)) := by
  obtain ⟨y, rfl⟩ : ∃ y : Nat, x = y := ⟨x.toNat, by omega⟩
  rw [or_u8 (by omega) (by omega), hk _ (by omega), lo8_int (by omega) (by omega)]
  rfl
theorem and_low {x : Int} (h0 : 0 ≤ x) {c : Bool} : binE Tryz.prog .and 5 false c (.int .u8 (IntKind.u8.wrap x)) (.int .u8 63) = some (.int .u8 (x % 64)) := by
  have e : IntKind.u8.wrap x = ((x % 256).toNat : Int) := by simp [IntKind.wrap, IntKind.bits, IntKind.signed]; omega
  rw [e, show (63 : Int) = ((63 : Nat) : Int) from rfl, and_u8 (by omega) (by omega), and63 _ (by omega)]
  congr 2
  omega
abbrev encR (r : Int) : List UInt8 := Lib.encodeRune r
theorem enc1 {r : Int} (h0 : 0 ≤ r) (h1 : r ≤ 127) : encR r = [lo8 r] := by unfold encR Lib.encodeRune; rw [Lib.encodeRuneZ_one h0 h1]; rfl
theorem enc2 {r : Int} (h0 : 128 ≤ r) (h1 : r ≤ 2047) : encR r = [lo8 (192 + r / 64), lo8 (128 + r % 64)] := by unfold encR Lib.encodeRune; rw [Lib.encodeRuneZ_two h0 h1]; rfl
theorem enc3 {r : Int} (h : (2048 ≤ r ∧ r < 55296) ∨ (57343 < r ∧ r ≤ 65535)) : encR r = [lo8 (224 + r / 4096), lo8 (128 + r / 64 % 64), lo8 (128 + r % 64)] := by unfold encR Lib.encodeRune; rw [Lib.encodeRuneZ_three h]; rfl
theorem enc4 {r : Int} (h0 : 65536 ≤ r) (h1 : r ≤ 1114111) : encR r = [lo8 (240 + r / 262144), lo8 (128 + r / 4096 % 64), lo8 (128 + r / 64 % 64), lo8 (128 + r % 64)] := by unfold encR Lib.encodeRune; rw [Lib.encodeRuneZ_four h0 h1]; rfl
theorem enc_len (r : Int) : 1 ≤ (encR r).length ∧ (encR r).length ≤ 4 := by
  unfold encR Lib.encodeRune
  rw [List.length_map]
  exact Lib.encodeRuneZ_length r
def isR (r : Int) : Prop := 0 ≤ r ∧ r ≤ 1114111 ∧ ¬ (55296 ≤ r ∧ r ≤ 57343)
theorem f93_spec {h : Heap} {n : Nat} {a : Option Addr} {cp : Nat} (bs : List UInt8) (r : Int) (R_b : OwnRow encByte 5 (Trie.nil : Heap) h (.slice a bs.length cp) bs) (hr : isR r) (h127 : 127 < r) (hlb : bs.length < 1000000000000) :
    Makes Tryz.prog 93 [.slice a (bs.length) cp, .int .i32 (r)] h n ((blkOf (.slice a bs.length cp))) (fun v h2 _ => OwnRow encByte 5 (Trie.nil : Heap) h2 v (bs ++ encR r) ∧ ∀ c ∈ blkOf v, c ∈ blkOf (.slice a bs.length cp) ∨ n ≤ c) := by
  refine Makes.free fun hf => ?_
  have B_b : ∀ c ∈ blkOf (.slice a bs.length cp), c ∈ blkOf (.slice a bs.length cp) ∨ n ≤ c := fun c hc => .inl hc
  obtain ⟨hr0, hr1, hr2⟩ := hr
  have hen := enc_len r
  have hs : SubBut h h ((blkOf (.slice a bs.length cp))) := .refl _ _
  have hn : n ≤ n := Nat.le_refl _
  have hf0 := hf
  refine Makes.of_bodyV (args := [.slice a (bs.length) cp, .int .i32 (r)]) (vs := [.slice a (bs.length) cp, .int .i32 (r), undef, undef, undef, undef, undef, undef, undef, undef, undef, undef, undef, undef, undef, undef, undef, undef, undef, undef, undef, undef, undef, undef, undef, undef, undef, undef, undef, undef, undef, undef, undef, undef, undef, undef, undef, undef, undef, undef, undef, undef, undef, undef, undef, undef, undef, undef, undef, undef, undef, undef, undef, undef, undef, undef, undef, undef, undef, undef, undef, undef, undef, undef, undef, undef, undef, undef, undef, undef, undef, undef, undef, undef, undef, undef, undef, undef]) Tryz.func93 rfl rfl ?_
  refine AWp.seq (AWp.rowV (l := _) pok ?_)
  refine sq.c (v := .slice none (0) (0)) rfl rfl rfl rfl ?_
  refine sq.e (AWp.seq (AWp.rowV (l := _) pok ?_))
  refine sq.c (v := .int .i32 (r)) rfl rfl rfl rfl ?_
  refine sq.c (v := .int .u32 (r)) rfl rfl (Eq.trans (b := some (.int .u32 (IntKind.u32.wrap (r)))) (by kernel_rfl) (okI (wrap_u32 (by omega) (by omega)))) rfl ?_
  refine sq.c (v := .int .u32 (r)) rfl rfl rfl rfl ?_
  refine sq.e (AWp.block (AWp.seq (AWp.rowV (l := _) pok ?_)))
  refine sq.c (v := .int .u32 (r)) rfl rfl rfl rfl ?_
  refine sq.c (v := .bool (decide (r ≤ (2047 : Int)))) rfl rfl rfl rfl ?_
  refine sq.c (v := .bool (decide (r ≤ (2047 : Int)))) rfl rfl rfl rfl ?_
  refine sq.e ?_
  by_cases c3_1 : r ≤ (2047 : Int)
  · rw [decide_eq_true c3_1]
    refine AWp.condT rfl rfl ?_
    refine AWp.seq (AWp.rowV (l := _) pok ?_)
    refine sq.c (v := .slice a (bs.length) cp) rfl rfl rfl rfl ?_
    refine sq.c (v := .int .i32 (r)) rfl rfl rfl rfl ?_
    refine sq.c (v := .int .i32 (r / 64)) rfl rfl (okI (shr_lit (by rfl) (by decide))) rfl ?_
    refine sq.c (v := .int .u8 (r / 64)) rfl rfl (Eq.trans (b := some (.int .u8 (IntKind.u8.wrap (r / 64)))) (by kernel_rfl) (okI (wrap_u8 (by omega) (by omega)))) rfl ?_
    refine sq.c (v := .int .u8 (((lo8 (192 + r / 64)).toNat : Int))) rfl rfl (or_lead (c := true) (k := 192) (m := 32) or192 (by decide) (by omega) (by omega)) rfl ?_
    refine sq.c (v := .int .i32 (r)) rfl rfl rfl rfl ?_
    refine sq.c (v := .int .u8 (IntKind.u8.wrap (r))) rfl rfl (by kernel_rfl) rfl ?_
    refine sq.c (v := .int .u8 (r % 64)) rfl rfl (and_low (c := true) (x := r) (by omega)) rfl ?_
    refine sq.c (v := .int .u8 (((lo8 (128 + r % 64)).toNat : Int))) rfl rfl (or_lead (c := true) (k := 128) (m := 64) or128' (by decide) (by omega) (by omega)) rfl ?_
    have d_b_n : ∀ c ∈ blkOf (.slice a (bs.length) cp), c ≠ n := fun c hc e => R_b.ne' (hf _ (Nat.le_refl _)) c hc (List.mem_singleton.2 e)
    have z_n : h.get n = none := hf0 _ hn
    refine sq.op rfl rfl (Does.build (e := 5) (cs := [.int .u8 (((lo8 (192 + r / 64)).toNat : Int)), .int .u8 (((lo8 (128 + r % 64)).toNat : Int))]) hf (fun _ _ => by kernel_rfl)) ?_
    rintro _ h2 n3 ⟨rfl, hb1⟩ s4 hn2 hf
    refine sq.w ?_
    have R_b := R_b.keep s4
    have hs := hs.trans (s4.mono (by simp))
    have hn := Nat.le_trans hn hn2
    have hfo := hf
    refine sq.op rfl rfl (Does.append (E := encByte) (xs := bs) (ys := [lo8 (192 + r / 64), lo8 (128 + r % 64)]) appByte ⟨.slice 5, by kernel_rfl, fun _ q => by cases q⟩ hf (nil_sub h2 []) R_b (IsRow.of (E := encByte) (xs := [lo8 (192 + r / 64), lo8 (128 + r % 64)]) (cap := 2) hb1 (Nat.le_refl _)) rfl rfl (by simp only [List.length_cons, List.length_nil]; omega) (by simp only [List.length_cons, List.length_nil]; omega) rfl) ?_
    rintro v8 h5 n6 ⟨R_b, _, hB9⟩ s7 hn2 hf
    have hs := hs.own B_b hf0 s7
    have B_b : ∀ c ∈ blkOf v8, c ∈ (blkOf (.slice a bs.length cp)) ∨ n ≤ c := fun c hc => (hB9 c hc).elim (B_b c) (fun q => .inr (q ▸ hn))
    refine sq.w ?_
    have dn_b_n : ∀ c ∈ blkOf v8, c ≠ n := fun c hc => (hB9 c hc).elim (fun q => d_b_n c q) (fun q => by rw [q]; exact (hfo.ne hb1).symm)
    have hb1 := s7 _ _ (fun hm => d_b_n _ hm rfl) hb1
    have d_b_n := dn_b_n
    obtain ⟨a10, cp11, rfl⟩ := R_b.slice
    have hn := Nat.le_trans hn hn2
    refine sq.c (v := .slice a10 (bs ++ [lo8 (192 + r / 64), lo8 (128 + r % 64)]).length cp11) rfl rfl rfl rfl ?_
    refine sq.e ?_
    refine AWp.ret ?_
    refine ⟨rfl, [.slice a10 (bs ++ [lo8 (192 + r / 64), lo8 (128 + r % 64)]).length cp11], rfl, .slice a10 (bs ++ [lo8 (192 + r / 64), lo8 (128 + r % 64)]).length cp11, rfl, hs, hn, ?_⟩
    rw [enc2 (by omega) (by omega)]
    exact ⟨R_b, B_b⟩
  · rw [decide_eq_false c3_1]
    refine AWp.condF rfl rfl ?_
    refine AWp.seq (AWp.seq (AWp.rowV (l := _) pok ?_))
    refine sq.c (v := .int .u32 (r)) rfl rfl rfl rfl ?_
    refine sq.c (v := .bool (decide (r < (55296 : Int)))) rfl rfl rfl rfl ?_
    refine sq.c (v := .bool (decide (r < (55296 : Int)))) rfl rfl rfl rfl ?_
    refine sq.e ?_
    by_cases c5_1 : r < (55296 : Int)
    · rw [decide_eq_true c5_1]
      refine AWp.condT rfl rfl ?_
      refine AWp.skip ?_
      refine AWp.condT rfl rfl ?_
      refine AWp.seq (AWp.rowV (l := _) pok ?_)
      refine sq.c (v := .slice a (bs.length) cp) rfl rfl rfl rfl ?_
      refine sq.c (v := .int .i32 (r)) rfl rfl rfl rfl ?_
      refine sq.c (v := .int .i32 (r / 4096)) rfl rfl (okI (shr_lit (by rfl) (by decide))) rfl ?_
      refine sq.c (v := .int .u8 (r / 4096)) rfl rfl (Eq.trans (b := some (.int .u8 (IntKind.u8.wrap (r / 4096)))) (by kernel_rfl) (okI (wrap_u8 (by omega) (by omega)))) rfl ?_
      refine sq.c (v := .int .u8 (((lo8 (224 + r / 4096)).toNat : Int))) rfl rfl (or_lead (c := true) (k := 224) (m := 16) or224 (by decide) (by omega) (by omega)) rfl ?_
      refine sq.c (v := .int .i32 (r)) rfl rfl rfl rfl ?_
      refine sq.c (v := .int .i32 (r / 64)) rfl rfl (okI (shr_lit (by rfl) (by decide))) rfl ?_
      refine sq.c (v := .int .u8 (IntKind.u8.wrap (r / 64))) rfl rfl (by kernel_rfl) rfl ?_
      refine sq.c (v := .int .u8 (r / 64 % 64)) rfl rfl (and_low (c := true) (x := r / 64) (by omega)) rfl ?_
      refine sq.c (v := .int .u8 (((lo8 (128 + r / 64 % 64)).toNat : Int))) rfl rfl (or_lead (c := true) (k := 128) (m := 64) or128' (by decide) (by omega) (by omega)) rfl ?_
      refine sq.c (v := .int .i32 (r)) rfl rfl rfl rfl ?_
      refine sq.c (v := .int .u8 (IntKind.u8.wrap (r))) rfl rfl (by kernel_rfl) rfl ?_
      refine sq.c (v := .int .u8 (r % 64)) rfl rfl (and_low (c := true) (x := r) (by omega)) rfl ?_
      refine sq.c (v := .int .u8 (((lo8 (128 + r % 64)).toNat : Int))) rfl rfl (or_lead (c := true) (k := 128) (m := 64) or128' (by decide) (by omega) (by omega)) rfl ?_
      have d_b_n : ∀ c ∈ blkOf (.slice a (bs.length) cp), c ≠ n := fun c hc e => R_b.ne' (hf _ (Nat.le_refl _)) c hc (List.mem_singleton.2 e)
      have z_n : h.get n = none := hf0 _ hn
      refine sq.op rfl rfl (Does.build (e := 5) (cs := [.int .u8 (((lo8 (224 + r / 4096)).toNat : Int)), .int .u8 (((lo8 (128 + r / 64 % 64)).toNat : Int)), .int .u8 (((lo8 (128 + r % 64)).toNat : Int))]) hf (fun _ _ => by kernel_rfl)) ?_
      rintro _ h13 n14 ⟨rfl, hb12⟩ s15 hn2 hf
      refine sq.w ?_
      have R_b := R_b.keep s15
      have hs := hs.trans (s15.mono (by simp))
      have hn := Nat.le_trans hn hn2
      have hfo := hf
      refine sq.op rfl rfl (Does.append (E := encByte) (xs := bs) (ys := [lo8 (224 + r / 4096), lo8 (128 + r / 64 % 64), lo8 (128 + r % 64)]) appByte ⟨.slice 5, by kernel_rfl, fun _ q => by cases q⟩ hf (nil_sub h13 []) R_b (IsRow.of (E := encByte) (xs := [lo8 (224 + r / 4096), lo8 (128 + r / 64 % 64), lo8 (128 + r % 64)]) (cap := 3) hb12 (Nat.le_refl _)) rfl rfl (by simp only [List.length_cons, List.length_nil]; omega) (by simp only [List.length_cons, List.length_nil]; omega) rfl) ?_
      rintro v19 h16 n17 ⟨R_b, _, hB20⟩ s18 hn2 hf
      have hs := hs.own B_b hf0 s18
      have B_b : ∀ c ∈ blkOf v19, c ∈ (blkOf (.slice a bs.length cp)) ∨ n ≤ c := fun c hc => (hB20 c hc).elim (B_b c) (fun q => .inr (q ▸ hn))
      refine sq.w ?_
      have dn_b_n : ∀ c ∈ blkOf v19, c ≠ n := fun c hc => (hB20 c hc).elim (fun q => d_b_n c q) (fun q => by rw [q]; exact (hfo.ne hb12).symm)
      have hb12 := s18 _ _ (fun hm => d_b_n _ hm rfl) hb12
      have d_b_n := dn_b_n
      obtain ⟨a21, cp22, rfl⟩ := R_b.slice
      have hn := Nat.le_trans hn hn2
      refine sq.c (v := .slice a21 (bs ++ [lo8 (224 + r / 4096), lo8 (128 + r / 64 % 64), lo8 (128 + r % 64)]).length cp22) rfl rfl rfl rfl ?_
      refine sq.e ?_
      refine AWp.ret ?_
      refine ⟨rfl, [.slice a21 (bs ++ [lo8 (224 + r / 4096), lo8 (128 + r / 64 % 64), lo8 (128 + r % 64)]).length cp22], rfl, .slice a21 (bs ++ [lo8 (224 + r / 4096), lo8 (128 + r / 64 % 64), lo8 (128 + r % 64)]).length cp22, rfl, hs, hn, ?_⟩
      rw [enc3 (by omega)]
      exact ⟨R_b, B_b⟩
    · rw [decide_eq_false c5_1]
      refine AWp.condF rfl rfl ?_
      refine AWp.rowV (l := _) pok ?_
      refine sq.c (v := .int .u32 (r)) rfl rfl rfl rfl ?_
      refine sq.c (v := .bool (decide ((57343 : Int) < r))) rfl rfl rfl rfl ?_
      refine sq.c (v := .bool (decide ((57343 : Int) < r))) rfl rfl rfl rfl ?_
      by_cases c6_1 : (57343 : Int) < r
      · rw [decide_eq_true c6_1]
        refine sq.c (v := .int .u32 (r)) (wantT (g := 2) (d := 30) rfl rfl rfl) rfl rfl rfl ?_
        refine sq.c (v := .bool (decide (r ≤ (65535 : Int)))) (wantT (g := 2) (d := 30) rfl rfl rfl) rfl rfl rfl ?_
        refine sq.c (v := .bool (decide (r ≤ (65535 : Int)))) rfl rfl rfl rfl ?_
        refine sq.c (v := .bool (decide (r ≤ (65535 : Int)))) rfl rfl rfl rfl ?_
        refine sq.e ?_
        by_cases c6_4 : r ≤ (65535 : Int)
        · rw [decide_eq_true c6_4]
          refine AWp.condT rfl rfl ?_
          refine AWp.seq (AWp.rowV (l := _) pok ?_)
          refine sq.c (v := .slice a (bs.length) cp) rfl rfl rfl rfl ?_
          refine sq.c (v := .int .i32 (r)) rfl rfl rfl rfl ?_
          refine sq.c (v := .int .i32 (r / 4096)) rfl rfl (okI (shr_lit (by rfl) (by decide))) rfl ?_
          refine sq.c (v := .int .u8 (r / 4096)) rfl rfl (Eq.trans (b := some (.int .u8 (IntKind.u8.wrap (r / 4096)))) (by kernel_rfl) (okI (wrap_u8 (by omega) (by omega)))) rfl ?_
          refine sq.c (v := .int .u8 (((lo8 (224 + r / 4096)).toNat : Int))) rfl rfl (or_lead (c := true) (k := 224) (m := 16) or224 (by decide) (by omega) (by omega)) rfl ?_
          refine sq.c (v := .int .i32 (r)) rfl rfl rfl rfl ?_
          refine sq.c (v := .int .i32 (r / 64)) rfl rfl (okI (shr_lit (by rfl) (by decide))) rfl ?_
          refine sq.c (v := .int .u8 (IntKind.u8.wrap (r / 64))) rfl rfl (by kernel_rfl) rfl ?_
          refine sq.c (v := .int .u8 (r / 64 % 64)) rfl rfl (and_low (c := true) (x := r / 64) (by omega)) rfl ?_
          refine sq.c (v := .int .u8 (((lo8 (128 + r / 64 % 64)).toNat : Int))) rfl rfl (or_lead (c := true) (k := 128) (m := 64) or128' (by decide) (by omega) (by omega)) rfl ?_
          refine sq.c (v := .int .i32 (r)) rfl rfl rfl rfl ?_
          refine sq.c (v := .int .u8 (IntKind.u8.wrap (r))) rfl rfl (by kernel_rfl) rfl ?_
          refine sq.c (v := .int .u8 (r % 64)) rfl rfl (and_low (c := true) (x := r) (by omega)) rfl ?_
          refine sq.c (v := .int .u8 (((lo8 (128 + r % 64)).toNat : Int))) rfl rfl (or_lead (c := true) (k := 128) (m := 64) or128' (by decide) (by omega) (by omega)) rfl ?_
          have d_b_n : ∀ c ∈ blkOf (.slice a (bs.length) cp), c ≠ n := fun c hc e => R_b.ne' (hf _ (Nat.le_refl _)) c hc (List.mem_singleton.2 e)
          have z_n : h.get n = none := hf0 _ hn
          refine sq.op rfl rfl (Does.build (e := 5) (cs := [.int .u8 (((lo8 (224 + r / 4096)).toNat : Int)), .int .u8 (((lo8 (128 + r / 64 % 64)).toNat : Int)), .int .u8 (((lo8 (128 + r % 64)).toNat : Int))]) hf (fun _ _ => by kernel_rfl)) ?_
          rintro _ h24 n25 ⟨rfl, hb23⟩ s26 hn2 hf
          refine sq.w ?_
          have R_b := R_b.keep s26
          have hs := hs.trans (s26.mono (by simp))
          have hn := Nat.le_trans hn hn2
          have hfo := hf
          refine sq.op rfl rfl (Does.append (E := encByte) (xs := bs) (ys := [lo8 (224 + r / 4096), lo8 (128 + r / 64 % 64), lo8 (128 + r % 64)]) appByte ⟨.slice 5, by kernel_rfl, fun _ q => by cases q⟩ hf (nil_sub h24 []) R_b (IsRow.of (E := encByte) (xs := [lo8 (224 + r / 4096), lo8 (128 + r / 64 % 64), lo8 (128 + r % 64)]) (cap := 3) hb23 (Nat.le_refl _)) rfl rfl (by simp only [List.length_cons, List.length_nil]; omega) (by simp only [List.length_cons, List.length_nil]; omega) rfl) ?_
          rintro v30 h27 n28 ⟨R_b, _, hB31⟩ s29 hn2 hf
          have hs := hs.own B_b hf0 s29
          have B_b : ∀ c ∈ blkOf v30, c ∈ (blkOf (.slice a bs.length cp)) ∨ n ≤ c := fun c hc => (hB31 c hc).elim (B_b c) (fun q => .inr (q ▸ hn))
          refine sq.w ?_
          have dn_b_n : ∀ c ∈ blkOf v30, c ≠ n := fun c hc => (hB31 c hc).elim (fun q => d_b_n c q) (fun q => by rw [q]; exact (hfo.ne hb23).symm)
          have hb23 := s29 _ _ (fun hm => d_b_n _ hm rfl) hb23
          have d_b_n := dn_b_n
          obtain ⟨a32, cp33, rfl⟩ := R_b.slice
          have hn := Nat.le_trans hn hn2
          refine sq.c (v := .slice a32 (bs ++ [lo8 (224 + r / 4096), lo8 (128 + r / 64 % 64), lo8 (128 + r % 64)]).length cp33) rfl rfl rfl rfl ?_
          refine sq.e ?_
          refine AWp.ret ?_
          refine ⟨rfl, [.slice a32 (bs ++ [lo8 (224 + r / 4096), lo8 (128 + r / 64 % 64), lo8 (128 + r % 64)]).length cp33], rfl, .slice a32 (bs ++ [lo8 (224 + r / 4096), lo8 (128 + r / 64 % 64), lo8 (128 + r % 64)]).length cp33, rfl, hs, hn, ?_⟩
          rw [enc3 (by omega)]
          exact ⟨R_b, B_b⟩
        · rw [decide_eq_false c6_4]
          refine AWp.condF rfl rfl ?_
          refine AWp.seq (AWp.rowV (l := _) pok ?_)
          refine sq.c (v := .int .u32 (r)) rfl rfl rfl rfl ?_
          refine sq.c (v := .bool (decide ((65535 : Int) < r))) rfl rfl rfl rfl ?_
          refine sq.c (v := .bool (decide ((65535 : Int) < r))) rfl rfl rfl rfl ?_
          by_cases c8_1 : (65535 : Int) < r
          · rw [decide_eq_true c8_1]
            refine sq.c (v := .int .u32 (r)) (wantT (g := 2) (d := 53) rfl rfl rfl) rfl rfl rfl ?_
            refine sq.c (v := .bool (decide (r ≤ (1114111 : Int)))) (wantT (g := 2) (d := 53) rfl rfl rfl) rfl rfl rfl ?_
            refine sq.c (v := .bool (decide (r ≤ (1114111 : Int)))) rfl rfl rfl rfl ?_
            refine sq.c (v := .bool (decide (r ≤ (1114111 : Int)))) rfl rfl rfl rfl ?_
            refine sq.e ?_
            by_cases c8_4 : r ≤ (1114111 : Int)
            · rw [decide_eq_true c8_4]
              refine AWp.condT rfl rfl ?_
              refine AWp.seq (AWp.rowV (l := _) pok ?_)
              refine sq.c (v := .slice a (bs.length) cp) rfl rfl rfl rfl ?_
              refine sq.c (v := .int .i32 (r)) rfl rfl rfl rfl ?_
              refine sq.c (v := .int .i32 (r / 262144)) rfl rfl (okI (shr_lit (by rfl) (by decide))) rfl ?_
              refine sq.c (v := .int .u8 (r / 262144)) rfl rfl (Eq.trans (b := some (.int .u8 (IntKind.u8.wrap (r / 262144)))) (by kernel_rfl) (okI (wrap_u8 (by omega) (by omega)))) rfl ?_
              refine sq.c (v := .int .u8 (((lo8 (240 + r / 262144)).toNat : Int))) rfl rfl (or_lead (c := true) (k := 240) (m := 8) or240 (by decide) (by omega) (by omega)) rfl ?_
              refine sq.c (v := .int .i32 (r)) rfl rfl rfl rfl ?_
              refine sq.c (v := .int .i32 (r / 4096)) rfl rfl (okI (shr_lit (by rfl) (by decide))) rfl ?_
              refine sq.c (v := .int .u8 (IntKind.u8.wrap (r / 4096))) rfl rfl (by kernel_rfl) rfl ?_
              refine sq.c (v := .int .u8 (r / 4096 % 64)) rfl rfl (and_low (c := true) (x := r / 4096) (by omega)) rfl ?_
              refine sq.c (v := .int .u8 (((lo8 (128 + r / 4096 % 64)).toNat : Int))) rfl rfl (or_lead (c := true) (k := 128) (m := 64) or128' (by decide) (by omega) (by omega)) rfl ?_
              refine sq.c (v := .int .i32 (r)) rfl rfl rfl rfl ?_
              refine sq.c (v := .int .i32 (r / 64)) rfl rfl (okI (shr_lit (by rfl) (by decide))) rfl ?_
              refine sq.c (v := .int .u8 (IntKind.u8.wrap (r / 64))) rfl rfl (by kernel_rfl) rfl ?_
              refine sq.c (v := .int .u8 (r / 64 % 64)) rfl rfl (and_low (c := true) (x := r / 64) (by omega)) rfl ?_
              refine sq.c (v := .int .u8 (((lo8 (128 + r / 64 % 64)).toNat : Int))) rfl rfl (or_lead (c := true) (k := 128) (m := 64) or128' (by decide) (by omega) (by omega)) rfl ?_
              refine sq.c (v := .int .i32 (r)) rfl rfl rfl rfl ?_
              refine sq.c (v := .int .u8 (IntKind.u8.wrap (r))) rfl rfl (by kernel_rfl) rfl ?_
              refine sq.c (v := .int .u8 (r % 64)) rfl rfl (and_low (c := true) (x := r) (by omega)) rfl ?_
              refine sq.c (v := .int .u8 (((lo8 (128 + r % 64)).toNat : Int))) rfl rfl (or_lead (c := true) (k := 128) (m := 64) or128' (by decide) (by omega) (by omega)) rfl ?_
              have d_b_n : ∀ c ∈ blkOf (.slice a (bs.length) cp), c ≠ n := fun c hc e => R_b.ne' (hf _ (Nat.le_refl _)) c hc (List.mem_singleton.2 e)
              have z_n : h.get n = none := hf0 _ hn
              refine sq.op rfl rfl (Does.build (e := 5) (cs := [.int .u8 (((lo8 (240 + r / 262144)).toNat : Int)), .int .u8 (((lo8 (128 + r / 4096 % 64)).toNat : Int)), .int .u8 (((lo8 (128 + r / 64 % 64)).toNat : Int)), .int .u8 (((lo8 (128 + r % 64)).toNat : Int))]) hf (fun _ _ => by kernel_rfl)) ?_
              rintro _ h35 n36 ⟨rfl, hb34⟩ s37 hn2 hf
              refine sq.w ?_
              have R_b := R_b.keep s37
              have hs := hs.trans (s37.mono (by simp))
              have hn := Nat.le_trans hn hn2
              have hfo := hf
              refine sq.op rfl rfl (Does.append (E := encByte) (xs := bs) (ys := [lo8 (240 + r / 262144), lo8 (128 + r / 4096 % 64), lo8 (128 + r / 64 % 64), lo8 (128 + r % 64)]) appByte ⟨.slice 5, by kernel_rfl, fun _ q => by cases q⟩ hf (nil_sub h35 []) R_b (IsRow.of (E := encByte) (xs := [lo8 (240 + r / 262144), lo8 (128 + r / 4096 % 64), lo8 (128 + r / 64 % 64), lo8 (128 + r % 64)]) (cap := 4) hb34 (Nat.le_refl _)) rfl rfl (by simp only [List.length_cons, List.length_nil]; omega) (by simp only [List.length_cons, List.length_nil]; omega) rfl) ?_
              rintro v41 h38 n39 ⟨R_b, _, hB42⟩ s40 hn2 hf
              have hs := hs.own B_b hf0 s40
              have B_b : ∀ c ∈ blkOf v41, c ∈ (blkOf (.slice a bs.length cp)) ∨ n ≤ c := fun c hc => (hB42 c hc).elim (B_b c) (fun q => .inr (q ▸ hn))
              refine sq.w ?_
              have dn_b_n : ∀ c ∈ blkOf v41, c ≠ n := fun c hc => (hB42 c hc).elim (fun q => d_b_n c q) (fun q => by rw [q]; exact (hfo.ne hb34).symm)
              have hb34 := s40 _ _ (fun hm => d_b_n _ hm rfl) hb34
              have d_b_n := dn_b_n
              obtain ⟨a43, cp44, rfl⟩ := R_b.slice
              have hn := Nat.le_trans hn hn2
              refine sq.c (v := .slice a43 (bs ++ [lo8 (240 + r / 262144), lo8 (128 + r / 4096 % 64), lo8 (128 + r / 64 % 64), lo8 (128 + r % 64)]).length cp44) rfl rfl rfl rfl ?_
              refine sq.e ?_
              refine AWp.ret ?_
              refine ⟨rfl, [.slice a43 (bs ++ [lo8 (240 + r / 262144), lo8 (128 + r / 4096 % 64), lo8 (128 + r / 64 % 64), lo8 (128 + r % 64)]).length cp44], rfl, .slice a43 (bs ++ [lo8 (240 + r / 262144), lo8 (128 + r / 4096 % 64), lo8 (128 + r / 64 % 64), lo8 (128 + r % 64)]).length cp44, rfl, hs, hn, ?_⟩
              rw [enc4 (by omega) (by omega)]
              exact ⟨R_b, B_b⟩
            · exfalso
              omega
          · exfalso
            omega
      · rw [decide_eq_false c6_1]
        refine sq.s (wantF (g := 2) (d := 30) rfl rfl rfl) rfl ?_
        refine sq.s (wantF (g := 2) (d := 30) rfl rfl rfl) rfl ?_
        refine sq.c (v := .bool false) rfl rfl rfl rfl ?_
        refine sq.c (v := .bool false) rfl rfl rfl rfl ?_
        refine sq.e ?_
        refine AWp.condF rfl rfl ?_
        refine AWp.seq (AWp.rowV (l := _) pok ?_)
        refine sq.c (v := .int .u32 (r)) rfl rfl rfl rfl ?_
        refine sq.c (v := .bool (decide ((65535 : Int) < r))) rfl rfl rfl rfl ?_
        refine sq.c (v := .bool (decide ((65535 : Int) < r))) rfl rfl rfl rfl ?_
        by_cases c8_1 : (65535 : Int) < r
        · rw [decide_eq_true c8_1]
          refine sq.c (v := .int .u32 (r)) (wantT (g := 2) (d := 53) rfl rfl rfl) rfl rfl rfl ?_
          refine sq.c (v := .bool (decide (r ≤ (1114111 : Int)))) (wantT (g := 2) (d := 53) rfl rfl rfl) rfl rfl rfl ?_
          refine sq.c (v := .bool (decide (r ≤ (1114111 : Int)))) rfl rfl rfl rfl ?_
          refine sq.c (v := .bool (decide (r ≤ (1114111 : Int)))) rfl rfl rfl rfl ?_
          refine sq.e ?_
          by_cases c8_4 : r ≤ (1114111 : Int)
          · rw [decide_eq_true c8_4]
            refine AWp.condT rfl rfl ?_
            refine AWp.seq (AWp.rowV (l := _) pok ?_)
            refine sq.c (v := .slice a (bs.length) cp) rfl rfl rfl rfl ?_
            refine sq.c (v := .int .i32 (r)) rfl rfl rfl rfl ?_
            refine sq.c (v := .int .i32 (r / 262144)) rfl rfl (okI (shr_lit (by rfl) (by decide))) rfl ?_
            refine sq.c (v := .int .u8 (r / 262144)) rfl rfl (Eq.trans (b := some (.int .u8 (IntKind.u8.wrap (r / 262144)))) (by kernel_rfl) (okI (wrap_u8 (by omega) (by omega)))) rfl ?_
            refine sq.c (v := .int .u8 (((lo8 (240 + r / 262144)).toNat : Int))) rfl rfl (or_lead (c := true) (k := 240) (m := 8) or240 (by decide) (by omega) (by omega)) rfl ?_
            refine sq.c (v := .int .i32 (r)) rfl rfl rfl rfl ?_
            refine sq.c (v := .int .i32 (r / 4096)) rfl rfl (okI (shr_lit (by rfl) (by decide))) rfl ?_
            refine sq.c (v := .int .u8 (IntKind.u8.wrap (r / 4096))) rfl rfl (by kernel_rfl) rfl ?_
            refine sq.c (v := .int .u8 (r / 4096 % 64)) rfl rfl (and_low (c := true) (x := r / 4096) (by omega)) rfl ?_
            refine sq.c (v := .int .u8 (((lo8 (128 + r / 4096 % 64)).toNat : Int))) rfl rfl (or_lead (c := true) (k := 128) (m := 64) or128' (by decide) (by omega) (by omega)) rfl ?_
            refine sq.c (v := .int .i32 (r)) rfl rfl rfl rfl ?_
            refine sq.c (v := .int .i32 (r / 64)) rfl rfl (okI (shr_lit (by rfl) (by decide))) rfl ?_
            refine sq.c (v := .int .u8 (IntKind.u8.wrap (r / 64))) rfl rfl (by kernel_rfl) rfl ?_
            refine sq.c (v := .int .u8 (r / 64 % 64)) rfl rfl (and_low (c := true) (x := r / 64) (by omega)) rfl ?_
            refine sq.c (v := .int .u8 (((lo8 (128 + r / 64 % 64)).toNat : Int))) rfl rfl (or_lead (c := true) (k := 128) (m := 64) or128' (by decide) (by omega) (by omega)) rfl ?_
            refine sq.c (v := .int .i32 (r)) rfl rfl rfl rfl ?_
            refine sq.c (v := .int .u8 (IntKind.u8.wrap (r))) rfl rfl (by kernel_rfl) rfl ?_
            refine sq.c (v := .int .u8 (r % 64)) rfl rfl (and_low (c := true) (x := r) (by omega)) rfl ?_
            refine sq.c (v := .int .u8 (((lo8 (128 + r % 64)).toNat : Int))) rfl rfl (or_lead (c := true) (k := 128) (m := 64) or128' (by decide) (by omega) (by omega)) rfl ?_
            have d_b_n : ∀ c ∈ blkOf (.slice a (bs.length) cp), c ≠ n := fun c hc e => R_b.ne' (hf _ (Nat.le_refl _)) c hc (List.mem_singleton.2 e)
            have z_n : h.get n = none := hf0 _ hn
            refine sq.op rfl rfl (Does.build (e := 5) (cs := [.int .u8 (((lo8 (240 + r / 262144)).toNat : Int)), .int .u8 (((lo8 (128 + r / 4096 % 64)).toNat : Int)), .int .u8 (((lo8 (128 + r / 64 % 64)).toNat : Int)), .int .u8 (((lo8 (128 + r % 64)).toNat : Int))]) hf (fun _ _ => by kernel_rfl)) ?_
            rintro _ h46 n47 ⟨rfl, hb45⟩ s48 hn2 hf
            refine sq.w ?_
            have R_b := R_b.keep s48
            have hs := hs.trans (s48.mono (by simp))
            have hn := Nat.le_trans hn hn2
            have hfo := hf
            refine sq.op rfl rfl (Does.append (E := encByte) (xs := bs) (ys := [lo8 (240 + r / 262144), lo8 (128 + r / 4096 % 64), lo8 (128 + r / 64 % 64), lo8 (128 + r % 64)]) appByte ⟨.slice 5, by kernel_rfl, fun _ q => by cases q⟩ hf (nil_sub h46 []) R_b (IsRow.of (E := encByte) (xs := [lo8 (240 + r / 262144), lo8 (128 + r / 4096 % 64), lo8 (128 + r / 64 % 64), lo8 (128 + r % 64)]) (cap := 4) hb45 (Nat.le_refl _)) rfl rfl (by simp only [List.length_cons, List.length_nil]; omega) (by simp only [List.length_cons, List.length_nil]; omega) rfl) ?_
            rintro v52 h49 n50 ⟨R_b, _, hB53⟩ s51 hn2 hf
            have hs := hs.own B_b hf0 s51
            have B_b : ∀ c ∈ blkOf v52, c ∈ (blkOf (.slice a bs.length cp)) ∨ n ≤ c := fun c hc => (hB53 c hc).elim (B_b c) (fun q => .inr (q ▸ hn))
            refine sq.w ?_
            have dn_b_n : ∀ c ∈ blkOf v52, c ≠ n := fun c hc => (hB53 c hc).elim (fun q => d_b_n c q) (fun q => by rw [q]; exact (hfo.ne hb45).symm)
            have hb45 := s51 _ _ (fun hm => d_b_n _ hm rfl) hb45
            have d_b_n := dn_b_n
            obtain ⟨a54, cp55, rfl⟩ := R_b.slice
            have hn := Nat.le_trans hn hn2
            refine sq.c (v := .slice a54 (bs ++ [lo8 (240 + r / 262144), lo8 (128 + r / 4096 % 64), lo8 (128 + r / 64 % 64), lo8 (128 + r % 64)]).length cp55) rfl rfl rfl rfl ?_
            refine sq.e ?_
            refine AWp.ret ?_
            refine ⟨rfl, [.slice a54 (bs ++ [lo8 (240 + r / 262144), lo8 (128 + r / 4096 % 64), lo8 (128 + r / 64 % 64), lo8 (128 + r % 64)]).length cp55], rfl, .slice a54 (bs ++ [lo8 (240 + r / 262144), lo8 (128 + r / 4096 % 64), lo8 (128 + r / 64 % 64), lo8 (128 + r % 64)]).length cp55, rfl, hs, hn, ?_⟩
            rw [enc4 (by omega) (by omega)]
            exact ⟨R_b, B_b⟩
          · exfalso
            omega
        · exfalso
          omega
theorem f82_spec {h : Heap} {n : Nat} {a : Option Addr} {cp : Nat} (bs : List UInt8) (r : Int) (R_b : OwnRow encByte 5 (Trie.nil : Heap) h (.slice a bs.length cp) bs) (hr : isR r) (hlb : bs.length < 1000000000000) :
    Makes Tryz.prog 82 [.slice a (bs.length) cp, .int .i32 (r)] h n ((blkOf (.slice a bs.length cp))) (fun v h2 _ => OwnRow encByte 5 (Trie.nil : Heap) h2 v (bs ++ encR r) ∧ ∀ c ∈ blkOf v, c ∈ blkOf (.slice a bs.length cp) ∨ n ≤ c) := by
  refine Makes.free fun hf => ?_
  have B_b : ∀ c ∈ blkOf (.slice a bs.length cp), c ∈ blkOf (.slice a bs.length cp) ∨ n ≤ c := fun c hc => .inl hc
  obtain ⟨hr0, hr1, hr2⟩ := hr
  have hen := enc_len r
  have hs : SubBut h h ((blkOf (.slice a bs.length cp))) := .refl _ _
  have hn : n ≤ n := Nat.le_refl _
  have hf0 := hf
  refine Makes.of_bodyV (args := [.slice a (bs.length) cp, .int .i32 (r)]) (vs := [.slice a (bs.length) cp, .int .i32 (r), undef, undef, undef, undef, undef, undef, undef, undef, undef, undef, undef, undef, undef, undef]) Tryz.func82 rfl rfl ?_
  refine AWp.seq (AWp.rowV (l := _) pok ?_)
  refine sq.c (v := .slice none (0) (0)) rfl rfl rfl rfl ?_
  refine sq.e (AWp.seq (AWp.seq (AWp.rowV (l := _) pok ?_)))
  refine sq.c (v := .int .i32 (r)) rfl rfl rfl rfl ?_
  refine sq.c (v := .int .u32 (r)) rfl rfl (Eq.trans (b := some (.int .u32 (IntKind.u32.wrap (r)))) (by kernel_rfl) (okI (wrap_u32 (by omega) (by omega)))) rfl ?_
  refine sq.c (v := .bool (decide (r ≤ (127 : Int)))) rfl rfl rfl rfl ?_
  refine sq.e ?_
  by_cases c1_2 : r ≤ (127 : Int)
  · rw [decide_eq_true c1_2]
    refine AWp.condT rfl rfl ?_
    refine AWp.seq (AWp.rowV (l := _) pok ?_)
    refine sq.c (v := .slice a (bs.length) cp) rfl rfl rfl rfl ?_
    refine sq.c (v := .int .i32 (r)) rfl rfl rfl rfl ?_
    refine sq.c (v := .int .u8 (((lo8 r).toNat : Int))) rfl rfl (okI (Eq.trans (wrap_u8 (by omega) (by omega)) (lo8_int (by omega) (by omega)).symm)) rfl ?_
    have d_b_n : ∀ c ∈ blkOf (.slice a (bs.length) cp), c ≠ n := fun c hc e => R_b.ne' (hf _ (Nat.le_refl _)) c hc (List.mem_singleton.2 e)
    have z_n : h.get n = none := hf0 _ hn
    refine sq.op rfl rfl (Does.build (e := 5) (cs := [.int .u8 (((lo8 r).toNat : Int))]) hf (fun _ _ => by kernel_rfl)) ?_
    rintro _ h2 n3 ⟨rfl, hb1⟩ s4 hn2 hf
    refine sq.w ?_
    have R_b := R_b.keep s4
    have hs := hs.trans (s4.mono (by simp))
    have hn := Nat.le_trans hn hn2
    have hfo := hf
    refine sq.op rfl rfl (Does.append (E := encByte) (xs := bs) (ys := [lo8 r]) appByte ⟨.slice 5, by kernel_rfl, fun _ q => by cases q⟩ hf (nil_sub h2 []) R_b (IsRow.of (E := encByte) (xs := [lo8 r]) (cap := 1) hb1 (Nat.le_refl _)) rfl rfl (by simp only [List.length_cons, List.length_nil]; omega) (by simp only [List.length_cons, List.length_nil]; omega) rfl) ?_
    rintro v8 h5 n6 ⟨R_b, _, hB9⟩ s7 hn2 hf
    have hs := hs.own B_b hf0 s7
    have B_b : ∀ c ∈ blkOf v8, c ∈ (blkOf (.slice a bs.length cp)) ∨ n ≤ c := fun c hc => (hB9 c hc).elim (B_b c) (fun q => .inr (q ▸ hn))
    refine sq.w ?_
    have dn_b_n : ∀ c ∈ blkOf v8, c ≠ n := fun c hc => (hB9 c hc).elim (fun q => d_b_n c q) (fun q => by rw [q]; exact (hfo.ne hb1).symm)
    have hb1 := s7 _ _ (fun hm => d_b_n _ hm rfl) hb1
    have d_b_n := dn_b_n
    obtain ⟨a10, cp11, rfl⟩ := R_b.slice
    have hn := Nat.le_trans hn hn2
    refine sq.c (v := .slice a10 (bs ++ [lo8 r]).length cp11) rfl rfl rfl rfl ?_
    refine sq.e ?_
    refine AWp.ret ?_
    refine ⟨rfl, [.slice a10 (bs ++ [lo8 r]).length cp11], rfl, .slice a10 (bs ++ [lo8 r]).length cp11, rfl, hs, hn, ?_⟩
    rw [enc1 (by omega) (by omega)]
    exact ⟨R_b, B_b⟩
  · rw [decide_eq_false c1_2]
    refine AWp.condF rfl rfl ?_
    refine AWp.skip (AWp.seq (AWp.rowV (l := _) pok ?_))
    refine sq.c (v := .slice a (bs.length) cp) rfl rfl rfl rfl ?_
    refine sq.c (v := .int .i32 (r)) rfl rfl rfl rfl ?_
    have hfo := hf
    refine sq.k rfl (CallsF.fn rfl (by kernel_rfl) rfl rfl) (f93_spec bs r R_b ⟨hr0, hr1, hr2⟩ (by omega) (by omega)) ?_
    rintro v12 h13 n14 ⟨R_b, hB_b⟩ s15 hn2 hf
    refine sq.w ?_
    have hs := hs.own B_b hf0 s15
    have B_b : ∀ c ∈ blkOf v12, c ∈ (blkOf (.slice a bs.length cp)) ∨ n ≤ c := fun c hc => (hB_b c hc).elim (B_b c) (fun q => .inr (Nat.le_trans hn q))
    obtain ⟨a_b11, cp_b11, rfl⟩ := R_b.slice
    have hn := Nat.le_trans hn hn2
    refine sq.c (v := .slice a_b11 (bs ++ (encR r)).length cp_b11) rfl rfl rfl rfl ?_
    refine sq.e ?_
    refine AWp.ret ?_
    refine ⟨rfl, [.slice a_b11 (bs ++ (encR r)).length cp_b11], rfl, .slice a_b11 (bs ++ (encR r)).length cp_b11, rfl, hs, hn, ?_⟩
    exact ⟨R_b, B_b⟩
theorem f60_spec {h : Heap} {n : Nat} {b : Nat} {pa : Value} {a : Option Addr} {cp : Nat} (bs : List UInt8) (hpa : PA pa b) (hb : h.get b = some (.cells [pa, .slice a bs.length cp] true BCI)) (R_r : OwnRow encByte 5 (Trie.nil : Heap) h (.slice a bs.length cp) bs) (d_r_b : ∀ c ∈ blkOf (.slice a bs.length cp), c ≠ b) (hlb : bs.length < 100000000000) (c : UInt8) :
    Makes Tryz.prog 60 [.pointer (some ⟨b, 0, none⟩), .int .u8 (((c).toNat : Int))] h n ((b :: blkOf (.slice a bs.length cp))) (fun _ h2 _ => BAfter h2 b (.slice a bs.length cp) n (bs ++ [c])) := by
  refine Makes.free fun hf => ?_
  have B_r : ∀ c ∈ blkOf (.slice a bs.length cp), c ∈ (b :: blkOf (.slice a bs.length cp)) ∨ n ≤ c := fun c hc => .inl (List.mem_cons_of_mem _ hc)
  have hs : SubBut h h ((b :: blkOf (.slice a bs.length cp))) := .refl _ _
  have hn : n ≤ n := Nat.le_refl _
  have hf0 := hf
  refine Makes.of_bodyV (args := [.pointer (some ⟨b, 0, none⟩), .int .u8 (((c).toNat : Int))]) (vs := [.pointer (some ⟨b, 0, none⟩), .int .u8 (((c).toNat : Int)), undef, undef, undef, undef, undef, undef, undef, undef, undef, undef, undef, undef, undef, undef, undef]) Tryz.func60 rfl rfl ?_
  refine AWp.seq (AWp.rowV (l := _) pok ?_)
  refine sq.c (v := .nilIface) rfl rfl rfl rfl ?_
  refine sq.e (AWp.seq (AWp.rowV (l := _) pok ?_))
  refine sq.c (v := .pointer (some ⟨b, 0, none⟩)) rfl rfl rfl rfl ?_
  refine sq.k rfl (CallsF.fn rfl (by kernel_rfl) rfl rfl) (f81_spec hb hpa) ?_
  rintro _ h2 n3 ⟨rfl, hb1⟩ s4 hn2 hf
  refine sq.w ?_
  have R_r := R_r.but s4 (fun c hc hm => d_r_b c hc (List.mem_singleton.1 hm))
  have hs := hs.at (by simp) s4
  have hn := Nat.le_trans hn hn2
  refine sq.e (AWp.seq (AWp.rowV (l := _) pok ?_))
  refine sq.c (v := .pointer (some ⟨b, 0, none⟩)) rfl rfl rfl rfl ?_
  refine sq.c (v := .pointer (some ⟨b, 0, none⟩)) rfl rfl rfl rfl ?_
  refine sq.c (v := .pointer (some ⟨b, 0, none⟩)) rfl rfl rfl rfl ?_
  refine sq.c (v := .pointer (some ⟨b, 1, none⟩)) rfl rfl (by kernel_rfl) rfl ?_
  refine sq.c (v := .slice a (bs.length) cp) rfl rfl (ld1 (P := Tryz.prog) (t := 42) (p := 1) (v := .slice a (bs.length) cp) (by kernel_rfl) (by kernel_rfl) hb1 rfl) rfl ?_
  refine sq.c (v := .int .u8 (((c).toNat : Int))) rfl rfl rfl rfl ?_
  have e_b_n3 : b ≠ n3 := hf.ne hb1
  have d_r_n3 : ∀ c ∈ blkOf (.slice a (bs.length) cp), c ≠ n3 := fun c hc e => R_r.ne' (hf _ (Nat.le_refl _)) c hc (List.mem_singleton.2 e)
  have z_n3 : h.get n3 = none := hf0 _ hn
  refine sq.op rfl rfl (Does.build (e := 5) (cs := [.int .u8 (((c).toNat : Int))]) hf (fun _ _ => by kernel_rfl)) ?_
  rintro _ h6 n7 ⟨rfl, hb5⟩ s8 hn2 hf
  refine sq.w ?_
  have hb1 := s8.sub _ _ hb1
  have R_r := R_r.keep s8
  have hs := hs.trans (s8.mono (by simp))
  have hn := Nat.le_trans hn hn2
  have hfo := hf
  refine sq.op rfl rfl (Does.append (E := encByte) (xs := bs) (ys := [c]) appByte ⟨.slice 5, by kernel_rfl, fun _ q => by cases q⟩ hf (nil_sub h6 []) R_r (IsRow.of (E := encByte) (xs := [c]) (cap := 1) hb5 (Nat.le_refl _)) rfl rfl (by simp only [List.length_cons, List.length_nil]; omega) (by simp only [List.length_cons, List.length_nil]; omega) rfl) ?_
  rintro v12 h9 n10 ⟨R_r, _, hB13⟩ s11 hn2 hf
  have hs := hs.own B_r hf0 s11
  have B_r : ∀ c ∈ blkOf v12, c ∈ (b :: blkOf (.slice a bs.length cp)) ∨ n ≤ c := fun c hc => (hB13 c hc).elim (B_r c) (fun q => .inr (q ▸ hn))
  refine sq.w ?_
  have dn_r_b : ∀ c ∈ blkOf v12, c ≠ b := fun c hc => (hB13 c hc).elim (fun q => d_r_b c q) (fun q => by rw [q]; exact (hfo.ne hb1).symm)
  have dn_r_n3 : ∀ c ∈ blkOf v12, c ≠ n3 := fun c hc => (hB13 c hc).elim (fun q => d_r_n3 c q) (fun q => by rw [q]; exact (hfo.ne hb5).symm)
  have hb1 := s11 _ _ (fun hm => d_r_b _ hm rfl) hb1
  have hb5 := s11 _ _ (fun hm => d_r_n3 _ hm rfl) hb5
  have d_r_b := dn_r_b
  have d_r_n3 := dn_r_n3
  obtain ⟨a14, cp15, rfl⟩ := R_r.slice
  have hn := Nat.le_trans hn hn2
  refine sq.c (v := .pointer (some ⟨b, 0, none⟩)) rfl rfl rfl rfl ?_
  refine sq.c (v := .pointer (some ⟨b, 1, none⟩)) rfl rfl (by kernel_rfl) rfl ?_
  refine sq.op rfl rfl (Does.store (k := 1) (xs := [.slice a14 (bs ++ [c]).length cp15]) (cs' := [.pointer (some ⟨b, 0, none⟩), .slice a14 (bs ++ [c]).length cp15]) hf (by kernel_rfl) rfl rfl rfl hb1 rfl rfl (Nat.le_of_ble_eq_true rfl) rfl) ?_
  rintro _ h17 n18 ⟨rfl, hb16⟩ s19 hn2 hf
  refine sq.w0 ?_
  have R_r := R_r.but s19 (fun c hc hm => d_r_b c hc (List.mem_singleton.1 hm))
  have hs := hs.at (by simp) s19
  have hn := Nat.le_trans hn hn2
  refine sq.e (AWp.seq (AWp.rowV (l := _) pok ?_))
  refine sq.c (v := .nilIface) rfl rfl rfl rfl ?_
  refine sq.e ?_
  refine AWp.ret ?_
  refine ⟨rfl, [.nilIface], rfl, .nilIface, rfl, hs, hn, ?_⟩
  exact ⟨_, _, hb16, R_r, (fun c hc => (B_r c hc).elim (fun q => .inl ((List.mem_cons.1 q).resolve_left (d_r_b c hc))) .inr), d_r_b⟩
theorem f61_spec {h : Heap} {n : Nat} {b : Nat} {pa : Value} {a : Option Addr} {cp : Nat} (bs : List UInt8) (hpa : PA pa b) (hb : h.get b = some (.cells [pa, .slice a bs.length cp] true BCI)) (R_r : OwnRow encByte 5 (Trie.nil : Heap) h (.slice a bs.length cp) bs) (d_r_b : ∀ c ∈ blkOf (.slice a bs.length cp), c ≠ b) (hlb : bs.length < 100000000000) (r : Int) (hr : isR r) :
    Makes Tryz.prog 61 [.pointer (some ⟨b, 0, none⟩), .int .i32 (r)] h n ((b :: blkOf (.slice a bs.length cp))) (fun _ h2 _ => BAfter h2 b (.slice a bs.length cp) n (bs ++ encR r)) := by
  refine Makes.free fun hf => ?_
  have B_r : ∀ c ∈ blkOf (.slice a bs.length cp), c ∈ (b :: blkOf (.slice a bs.length cp)) ∨ n ≤ c := fun c hc => .inl (List.mem_cons_of_mem _ hc)
  have hs : SubBut h h ((b :: blkOf (.slice a bs.length cp))) := .refl _ _
  have hn : n ≤ n := Nat.le_refl _
  have hf0 := hf
  refine Makes.of_bodyV (args := [.pointer (some ⟨b, 0, none⟩), .int .i32 (r)]) (vs := [.pointer (some ⟨b, 0, none⟩), .int .i32 (r), undef, undef, undef, undef, undef, undef, undef, undef, undef, undef, undef, undef, undef, undef, undef, undef, undef, undef, undef, undef, undef, undef, undef, undef, undef, undef, undef, undef]) Tryz.func61 rfl rfl ?_
  refine AWp.seq (AWp.rowV (l := _) pok ?_)
  refine sq.c (v := .int .i64 (0)) rfl rfl rfl rfl ?_
  refine sq.c (v := .nilIface) rfl rfl rfl rfl ?_
  refine sq.e (AWp.seq (AWp.rowV (l := _) pok ?_))
  refine sq.c (v := .pointer (some ⟨b, 0, none⟩)) rfl rfl rfl rfl ?_
  refine sq.k rfl (CallsF.fn rfl (by kernel_rfl) rfl rfl) (f81_spec hb hpa) ?_
  rintro _ h2 n3 ⟨rfl, hb1⟩ s4 hn2 hf
  refine sq.w ?_
  have R_r := R_r.but s4 (fun c hc hm => d_r_b c hc (List.mem_singleton.1 hm))
  have hs := hs.at (by simp) s4
  have hn := Nat.le_trans hn hn2
  refine sq.e (AWp.seq (AWp.rowV (l := _) pok ?_))
  refine sq.c (v := .pointer (some ⟨b, 0, none⟩)) rfl rfl rfl rfl ?_
  refine sq.c (v := .pointer (some ⟨b, 0, none⟩)) rfl rfl rfl rfl ?_
  refine sq.c (v := .pointer (some ⟨b, 1, none⟩)) rfl rfl (by kernel_rfl) rfl ?_
  refine sq.c (v := .slice a (bs.length) cp) rfl rfl (ld1 (P := Tryz.prog) (t := 42) (p := 1) (v := .slice a (bs.length) cp) (by kernel_rfl) (by kernel_rfl) hb1 rfl) rfl ?_
  refine sq.c (v := .int .i64 (((bs.length : Nat) : Int))) rfl rfl (by kernel_rfl) rfl ?_
  refine sq.c (v := .int .i64 (((bs.length : Nat) : Int))) rfl rfl rfl rfl ?_
  refine sq.e (AWp.seq (AWp.rowV (l := _) pok ?_))
  refine sq.c (v := .pointer (some ⟨b, 0, none⟩)) rfl rfl rfl rfl ?_
  refine sq.c (v := .pointer (some ⟨b, 0, none⟩)) rfl rfl rfl rfl ?_
  refine sq.c (v := .pointer (some ⟨b, 0, none⟩)) rfl rfl rfl rfl ?_
  refine sq.c (v := .pointer (some ⟨b, 1, none⟩)) rfl rfl (by kernel_rfl) rfl ?_
  refine sq.c (v := .slice a (bs.length) cp) rfl rfl (ld1 (P := Tryz.prog) (t := 42) (p := 1) (v := .slice a (bs.length) cp) (by kernel_rfl) (by kernel_rfl) hb1 rfl) rfl ?_
  refine sq.c (v := .int .i32 (r)) rfl rfl rfl rfl ?_
  have hfo := hf
  refine sq.k rfl (CallsF.fn rfl (by kernel_rfl) rfl rfl) (f82_spec bs r R_r hr (by omega)) ?_
  rintro v5 h6 n7 ⟨R_q, hB_q⟩ s8 hn2 hf
  refine sq.w ?_
  have d_q_b : ∀ c ∈ blkOf v5, c ≠ b := fun c hc => (hB_q c hc).elim (fun q => d_r_b c q) (fun q e => by rw [e] at q; have := hfo _ q; rw [hb1] at this; cases this)
  have hs := hs.own B_r hf0 s8
  have B_q : ∀ c ∈ blkOf v5, c ∈ (b :: blkOf (.slice a bs.length cp)) ∨ n ≤ c := fun c hc => (hB_q c hc).elim (B_r c) (fun q => .inr (Nat.le_trans hn q))
  have hb1 := s8 _ _ (fun hm => d_r_b _ hm rfl) hb1
  obtain ⟨a_q4, cp_q4, rfl⟩ := R_q.slice
  have hn := Nat.le_trans hn hn2
  refine sq.c (v := .pointer (some ⟨b, 0, none⟩)) rfl rfl rfl rfl ?_
  refine sq.c (v := .pointer (some ⟨b, 1, none⟩)) rfl rfl (by kernel_rfl) rfl ?_
  refine sq.op rfl rfl (Does.store (k := 1) (xs := [.slice a_q4 (bs ++ (encR r)).length cp_q4]) (cs' := [.pointer (some ⟨b, 0, none⟩), .slice a_q4 (bs ++ (encR r)).length cp_q4]) hf (by kernel_rfl) rfl rfl rfl hb1 rfl rfl (Nat.le_of_ble_eq_true rfl) rfl) ?_
  rintro _ h10 n11 ⟨rfl, hb9⟩ s12 hn2 hf
  refine sq.w0 ?_
  have R_q := R_q.but s12 (fun c hc hm => d_q_b c hc (List.mem_singleton.1 hm))
  have hs := hs.at (by simp) s12
  have hn := Nat.le_trans hn hn2
  refine sq.e (AWp.seq (AWp.rowV (l := _) pok ?_))
  refine sq.c (v := .pointer (some ⟨b, 0, none⟩)) rfl rfl rfl rfl ?_
  refine sq.c (v := .pointer (some ⟨b, 0, none⟩)) rfl rfl rfl rfl ?_
  refine sq.c (v := .pointer (some ⟨b, 1, none⟩)) rfl rfl (by kernel_rfl) rfl ?_
  refine sq.c (v := .slice a_q4 (bs ++ (encR r)).length cp_q4) rfl rfl (ld1 (P := Tryz.prog) (t := 42) (p := 1) (v := .slice a_q4 (bs ++ (encR r)).length cp_q4) (by kernel_rfl) (by kernel_rfl) hb9 rfl) rfl ?_
  refine sq.c (v := .int .i64 ((((bs ++ (encR r)).length : Nat) : Int))) rfl rfl (by kernel_rfl) rfl ?_
  refine sq.c (v := .int .i64 (((bs.length : Nat) : Int))) rfl rfl rfl rfl ?_
  refine sq.c (v := .int .i64 (((((bs ++ (encR r)).length : Nat) : Int)) - (((bs.length : Nat) : Int)))) rfl rfl (okI (wrap_i64 (by (have hen := enc_len r; rw [List.length_append]; omega)) (by (have hen := enc_len r; rw [List.length_append]; omega)))) rfl ?_
  refine sq.c (v := .int .i64 (((((bs ++ (encR r)).length : Nat) : Int)) - (((bs.length : Nat) : Int)))) rfl rfl rfl rfl ?_
  refine sq.c (v := .nilIface) rfl rfl rfl rfl ?_
  refine sq.e ?_
  refine AWp.ret ?_
  refine ⟨rfl, [.int .i64 (((((bs ++ (encR r)).length : Nat) : Int)) - (((bs.length : Nat) : Int))), .nilIface], rfl, .tuple #[.int .i64 (((((bs ++ (encR r)).length : Nat) : Int)) - (((bs.length : Nat) : Int))), .nilIface], rfl, hs, hn, ?_⟩
  exact ⟨_, _, hb9, R_q, (fun c hc => (B_q c hc).elim (fun q => .inl ((List.mem_cons.1 q).resolve_left (d_q_b c hc))) .inr), d_q_b⟩
theorem f62_spec {h : Heap} {n : Nat} {b : Nat} {pa : Value} {a : Option Addr} {cp : Nat} (bs : List UInt8) (hpa : PA pa b) (hb : h.get b = some (.cells [pa, .slice a bs.length cp] true BCI)) (R_r : OwnRow encByte 5 (Trie.nil : Heap) h (.slice a bs.length cp) bs) (d_r_b : ∀ c ∈ blkOf (.slice a bs.length cp), c ≠ b) (hlb : bs.length < 100000000000) (s : ByteArray) (hls : s.data.toList.length < 100000000000) :
    Makes Tryz.prog 62 [.pointer (some ⟨b, 0, none⟩), .string (s)] h n ((b :: blkOf (.slice a bs.length cp))) (fun _ h2 _ => BAfter h2 b (.slice a bs.length cp) n (bs ++ s.data.toList)) := by
  refine Makes.free fun hf => ?_
  have B_r : ∀ c ∈ blkOf (.slice a bs.length cp), c ∈ (b :: blkOf (.slice a bs.length cp)) ∨ n ≤ c := fun c hc => .inl (List.mem_cons_of_mem _ hc)
  have hs : SubBut h h ((b :: blkOf (.slice a bs.length cp))) := .refl _ _
  have hn : n ≤ n := Nat.le_refl _
  have hf0 := hf
  refine Makes.of_bodyV (args := [.pointer (some ⟨b, 0, none⟩), .string (s)]) (vs := [.pointer (some ⟨b, 0, none⟩), .string (s), undef, undef, undef, undef, undef, undef, undef, undef, undef, undef, undef, undef, undef, undef, undef, undef, undef]) Tryz.func62 rfl rfl ?_
  refine AWp.seq (AWp.rowV (l := _) pok ?_)
  refine sq.c (v := .int .i64 (0)) rfl rfl rfl rfl ?_
  refine sq.c (v := .nilIface) rfl rfl rfl rfl ?_
  refine sq.e (AWp.seq (AWp.rowV (l := _) pok ?_))
  refine sq.c (v := .pointer (some ⟨b, 0, none⟩)) rfl rfl rfl rfl ?_
  refine sq.k rfl (CallsF.fn rfl (by kernel_rfl) rfl rfl) (f81_spec hb hpa) ?_
  rintro _ h2 n3 ⟨rfl, hb1⟩ s4 hn2 hf
  refine sq.w ?_
  have R_r := R_r.but s4 (fun c hc hm => d_r_b c hc (List.mem_singleton.1 hm))
  have hs := hs.at (by simp) s4
  have hn := Nat.le_trans hn hn2
  refine sq.e (AWp.seq (AWp.rowV (l := _) pok ?_))
  refine sq.c (v := .pointer (some ⟨b, 0, none⟩)) rfl rfl rfl rfl ?_
  refine sq.c (v := .pointer (some ⟨b, 0, none⟩)) rfl rfl rfl rfl ?_
  refine sq.c (v := .pointer (some ⟨b, 0, none⟩)) rfl rfl rfl rfl ?_
  refine sq.c (v := .pointer (some ⟨b, 1, none⟩)) rfl rfl (by kernel_rfl) rfl ?_
  refine sq.c (v := .slice a (bs.length) cp) rfl rfl (ld1 (P := Tryz.prog) (t := 42) (p := 1) (v := .slice a (bs.length) cp) (by kernel_rfl) (by kernel_rfl) hb1 rfl) rfl ?_
  refine sq.c (v := .string (s)) rfl rfl rfl rfl ?_
  have hfo := hf
  refine sq.op rfl rfl (Does.appendS (bs := bs) (x := s) appByte ⟨.string, by kernel_rfl, fun _ q => by cases q⟩ hf (nil_sub h2 []) R_r  rfl rfl (by omega) (by omega) rfl) ?_
  rintro v8 h5 n6 ⟨R_r, _, hB9⟩ s7 hn2 hf
  have hs := hs.own B_r hf0 s7
  have B_r : ∀ c ∈ blkOf v8, c ∈ (b :: blkOf (.slice a bs.length cp)) ∨ n ≤ c := fun c hc => (hB9 c hc).elim (B_r c) (fun q => .inr (q ▸ hn))
  refine sq.w ?_
  have dn_r_b : ∀ c ∈ blkOf v8, c ≠ b := fun c hc => (hB9 c hc).elim (fun q => d_r_b c q) (fun q => by rw [q]; exact (hfo.ne hb1).symm)
  have hb1 := s7 _ _ (fun hm => d_r_b _ hm rfl) hb1
  have d_r_b := dn_r_b
  obtain ⟨a10, cp11, rfl⟩ := R_r.slice
  have hn := Nat.le_trans hn hn2
  refine sq.c (v := .pointer (some ⟨b, 0, none⟩)) rfl rfl rfl rfl ?_
  refine sq.c (v := .pointer (some ⟨b, 1, none⟩)) rfl rfl (by kernel_rfl) rfl ?_
  refine sq.op rfl rfl (Does.store (k := 1) (xs := [.slice a10 (bs ++ (s).data.toList).length cp11]) (cs' := [.pointer (some ⟨b, 0, none⟩), .slice a10 (bs ++ (s).data.toList).length cp11]) hf (by kernel_rfl) rfl rfl rfl hb1 rfl rfl (Nat.le_of_ble_eq_true rfl) rfl) ?_
  rintro _ h13 n14 ⟨rfl, hb12⟩ s15 hn2 hf
  refine sq.w0 ?_
  have R_r := R_r.but s15 (fun c hc hm => d_r_b c hc (List.mem_singleton.1 hm))
  have hs := hs.at (by simp) s15
  have hn := Nat.le_trans hn hn2
  refine sq.e (AWp.seq (AWp.rowV (l := _) pok ?_))
  refine sq.c (v := .string (s)) rfl rfl rfl rfl ?_
  refine sq.c (v := .int .i64 ((((s).data.toList.length : Nat) : Int))) rfl rfl (by kernel_rfl) rfl ?_
  refine sq.c (v := .int .i64 ((((s).data.toList.length : Nat) : Int))) rfl rfl rfl rfl ?_
  refine sq.c (v := .nilIface) rfl rfl rfl rfl ?_
  refine sq.e ?_
  refine AWp.ret ?_
  refine ⟨rfl, [.int .i64 ((((s).data.toList.length : Nat) : Int)), .nilIface], rfl, .tuple #[.int .i64 ((((s).data.toList.length : Nat) : Int)), .nilIface], rfl, hs, hn, ?_⟩
  exact ⟨_, _, hb12, R_r, (fun c hc => (B_r c hc).elim (fun q => .inl ((List.mem_cons.1 q).resolve_left (d_r_b c hc))) .inr), d_r_b⟩
theorem data_row {h : Heap} {n r l cp : Nat} (h0 : 0 < l) (hU : l < U) (hcp : cp = U ∨ cp = l) : dataE [.slice (some ⟨r, 0, none⟩) l cp] h n = some (.val (.pointer (some ⟨r, 0, none⟩)), h, n) := by
  show (if (cp < U ∧ cp ≠ 0) ∨ (cp = U ∧ l ≠ 0) then _ else none) = _
  rw [if_pos]
  rcases hcp with e | e <;> omega
theorem f64_own {h : Heap} {n : Nat} {b r cp : Nat} {pa : Value} {cr : CI} (bs : List UInt8) (hb : h.get b = some (.cells [pa, .slice (some ⟨r, 0, none⟩) bs.length cp] true BCI)) (hr : h.get r = some (.cells (encByte.row bs) true cr)) (hcr : cr.e = 5) (h0 : 0 < bs.length) (hl : bs.length < 100000000000) (hcp : cp = U ∨ cp = bs.length) (hne : b ≠ r) :
    Makes Tryz.prog 64 [.pointer (some ⟨b, 0, none⟩)] h n ([r]) (fun u _ _ => u = .string (strB bs)) := by
  refine Makes.free fun hf => ?_
  have hU : bs.length < U := by unfold U; omega
  have hs : SubBut h h ([r]) := .refl _ _
  have hn : n ≤ n := Nat.le_refl _
  have hf0 := hf
  refine Makes.of_bodyV (args := [.pointer (some ⟨b, 0, none⟩)]) (vs := [.pointer (some ⟨b, 0, none⟩), undef, undef, undef, undef, undef, undef, undef, undef, undef, undef, undef, undef, undef]) Tryz.func64 rfl rfl ?_
  refine AWp.seq (AWp.rowV (l := _) pok ?_)
  refine sq.c (v := .string (⟨#[]⟩)) rfl rfl rfl rfl ?_
  refine sq.e (AWp.seq ?_)
  refine AWp.anyK pok [0, 1, 2, 3, 5, 6, 7, 8, 9, 4, 10, 11] (by kernel_rfl) (by kernel_rfl) rfl (fun x fr fr' h n hd _ q => ⟨hd ▸ q.1, q.2⟩) ?_
  refine dk.c (v := .pointer (some ⟨b, 0, none⟩)) rfl (by kernel_rfl) rfl rfl rfl rfl ?_
  refine dk.c (v := .pointer (some ⟨b, 0, none⟩)) rfl (by kernel_rfl) rfl rfl rfl rfl ?_
  refine dk.c (v := .pointer (some ⟨b, 1, none⟩)) rfl (by kernel_rfl) rfl rfl (by kernel_rfl) rfl ?_
  refine dk.gB (v := .slice (some ⟨r, 0, none⟩) (bs.length) cp) b rfl (by kernel_rfl) rfl rfl (fun _ q_ => (ld1 (P := Tryz.prog) (t := 42) (p := 1) (v := .slice (some ⟨r, 0, none⟩) (bs.length) cp) (by kernel_rfl) (by kernel_rfl) (q_ _ hb) rfl)) rfl ?_
  refine dk.c (v := .pointer (some ⟨b, 0, none⟩)) rfl (by kernel_rfl) rfl rfl rfl rfl ?_
  refine dk.c (v := .pointer (some ⟨b, 0, none⟩)) rfl (by kernel_rfl) rfl rfl rfl rfl ?_
  refine dk.c (v := .pointer (some ⟨b, 1, none⟩)) rfl (by kernel_rfl) rfl rfl (by kernel_rfl) rfl ?_
  refine dk.gB (v := .slice (some ⟨r, 0, none⟩) (bs.length) cp) b rfl (by kernel_rfl) rfl rfl (fun _ q_ => (ld1 (P := Tryz.prog) (t := 42) (p := 1) (v := .slice (some ⟨r, 0, none⟩) (bs.length) cp) (by kernel_rfl) (by kernel_rfl) (q_ _ hb) rfl)) rfl ?_
  refine dk.c (v := .int .i64 (((bs.length : Nat) : Int))) rfl (by kernel_rfl) rfl rfl (by kernel_rfl) rfl ?_
  refine dk.op rfl (by kernel_rfl) rfl rfl (Does.sdata hf rfl (data_row h0 hU hcp)) (keepC (by simp) (keepC (by simp) keepN)) ?_
  rintro _ h1 n2 ⟨rfl, _⟩ s3 hn2 hf
  refine dk.w ?_
  have hr := s3.sub _ _ hr
  have hs := hs.trans (s3.mono (by simp))
  have hn := Nat.le_trans hn hn2
  refine dk.op rfl (by kernel_rfl) rfl rfl (Does.bstr hf rfl rfl (by kernel_rfl) hr hcr (by kernel_rfl) h0 (by omega)) (keepC (fun hm => hne (List.mem_singleton.1 hm)) (keepC (fun hm => hne (List.mem_singleton.1 hm)) keepN)) ?_
  rintro _ h4 n5 rfl s6 hn2 hf
  refine dk.w ?_
  have hs := hs.at (by simp) s6
  have hn := Nat.le_trans hn hn2
  refine dk.c (v := .string (⟨bs.toArray⟩)) rfl (by kernel_rfl) rfl rfl rfl rfl ?_
  refine dk.e ?_
  refine AWp.ret ?_
  refine ⟨rfl, [.string (⟨bs.toArray⟩)], rfl, .string (⟨bs.toArray⟩), rfl, hs, hn, ?_⟩
  rfl
theorem f64_nil {h : Heap} {n : Nat} {b : Nat} {pa : Value} (hb : h.get b = some (.cells [pa, .slice none 0 0] true BCI)) :
    Makes Tryz.prog 64 [.pointer (some ⟨b, 0, none⟩)] h n ([]) (fun u _ _ => u = .string ⟨#[]⟩) := by
  refine Makes.free fun hf => ?_
  have hs : SubBut h h ([]) := .refl _ _
  have hn : n ≤ n := Nat.le_refl _
  have hf0 := hf
  refine Makes.of_bodyV (args := [.pointer (some ⟨b, 0, none⟩)]) (vs := [.pointer (some ⟨b, 0, none⟩), undef, undef, undef, undef, undef, undef, undef, undef, undef, undef, undef, undef, undef]) Tryz.func64 rfl rfl ?_
  refine AWp.seq (AWp.rowV (l := _) pok ?_)
  refine sq.c (v := .string (⟨#[]⟩)) rfl rfl rfl rfl ?_
  refine sq.e (AWp.seq ?_)
  refine AWp.anyK pok [0, 1, 2, 3, 5, 6, 7, 8, 9, 4, 10, 11] (by kernel_rfl) (by kernel_rfl) rfl (fun x fr fr' h n hd _ q => ⟨hd ▸ q.1, q.2⟩) ?_
  refine dk.c (v := .pointer (some ⟨b, 0, none⟩)) rfl (by kernel_rfl) rfl rfl rfl rfl ?_
  refine dk.c (v := .pointer (some ⟨b, 0, none⟩)) rfl (by kernel_rfl) rfl rfl rfl rfl ?_
  refine dk.c (v := .pointer (some ⟨b, 1, none⟩)) rfl (by kernel_rfl) rfl rfl (by kernel_rfl) rfl ?_
  refine dk.gB (v := .slice none (0) (0)) b rfl (by kernel_rfl) rfl rfl (fun _ q_ => (ld1 (P := Tryz.prog) (t := 42) (p := 1) (v := .slice none (0) (0)) (by kernel_rfl) (by kernel_rfl) (q_ _ hb) rfl)) rfl ?_
  refine dk.c (v := .pointer (some ⟨b, 0, none⟩)) rfl (by kernel_rfl) rfl rfl rfl rfl ?_
  refine dk.c (v := .pointer (some ⟨b, 0, none⟩)) rfl (by kernel_rfl) rfl rfl rfl rfl ?_
  refine dk.c (v := .pointer (some ⟨b, 1, none⟩)) rfl (by kernel_rfl) rfl rfl (by kernel_rfl) rfl ?_
  refine dk.gB (v := .slice none (0) (0)) b rfl (by kernel_rfl) rfl rfl (fun _ q_ => (ld1 (P := Tryz.prog) (t := 42) (p := 1) (v := .slice none (0) (0)) (by kernel_rfl) (by kernel_rfl) (q_ _ hb) rfl)) rfl ?_
  refine dk.c (v := .int .i64 (0)) rfl (by kernel_rfl) rfl rfl (by kernel_rfl) rfl ?_
  refine dk.op rfl (by kernel_rfl) rfl rfl (Does.sdata hf rfl rfl) (keepC (by simp) (keepC (by simp) keepN)) ?_
  rintro _ h1 n2 ⟨rfl, _⟩ s3 hn2 hf
  refine dk.w ?_
  have hs := hs.trans s3
  have hn := Nat.le_trans hn hn2
  refine dk.op rfl (by kernel_rfl) rfl rfl (Does.bstr0 hf rfl rfl) (keepC (by simp) (keepC (by simp) keepN)) ?_
  rintro _ h4 n5 ⟨rfl, _⟩ s6 hn2 hf
  refine dk.w ?_
  have hs := hs.trans s6
  have hn := Nat.le_trans hn hn2
  refine dk.c (v := .string (⟨#[]⟩)) rfl (by kernel_rfl) rfl rfl rfl rfl ?_
  refine dk.e ?_
  refine AWp.ret ?_
  refine ⟨rfl, [.string (⟨#[]⟩)], rfl, .string (⟨#[]⟩), rfl, hs, hn, ?_⟩
  rfl
end Go.Proofs.YtkpjfibpaojelaaGreatDoor
namespace Go.Proofs
open Go.Shelf
def Tryz.lays156_ren : Go.Shelf.Ren := ⟨fun | 156 => 39 | 165 => 65 | 166 => 62 | 169 => 64 | 240 => 81 | 241 => 84 | 276 => 92 | 277 => 98 | n => n, fun | 31 => 41 | 9 => 9 | 3 => 3 | 4 => 4 | 0 => 0 | 20 => 20 | 72 => 72 | 76 => 76 | 70 => 70 | 37 => 42 | 75 => 74 | 127 => 100 | 164 => 107 | 5 => 5 | 80 => 80 | n => n, fun | n => n⟩
theorem Tryz.lays156 : Go.Proofs.Lays.n156 Tryz.prog Tryz.lays156_ren := {
  mixed := by kernel_rfl
  f156 := Tryz.func39.trans (congrArg some (by kernel_rfl))
  f165 := Tryz.func65.trans (congrArg some (by kernel_rfl))
  f166 := Tryz.func62.trans (congrArg some (by kernel_rfl))
  f169 := Tryz.func64.trans (congrArg some (by kernel_rfl))
  f240 := Tryz.func81.trans (congrArg some (by kernel_rfl))
  f241 := Tryz.func84.trans (congrArg some (by kernel_rfl))
  f276 := Tryz.func92.trans (congrArg some (by kernel_rfl))
  f277 := Tryz.func98.trans (congrArg some (by kernel_rfl))
  t0 := Tryz.underlying0
  a0 := Tryz.isAgg0
  z0 := Tryz.sizeOf0
  v0 := Tryz.zeroValue0
  t3 := Tryz.underlying3
  a3 := Tryz.isAgg3
  z3 := Tryz.sizeOf3
  v3 := Tryz.zeroValue3
  t4 := Tryz.underlying4
  a4 := Tryz.isAgg4
  z4 := Tryz.sizeOf4
  v4 := Tryz.zeroValue4
  t9 := Tryz.underlying9
  a9 := Tryz.isAgg9
  z9 := Tryz.sizeOf9
  v9 := Tryz.zeroValue9
  t20 := Tryz.underlying20
  a20 := Tryz.isAgg20
  z20 := Tryz.sizeOf20
  v20 := Tryz.zeroValue20
  t31 := Tryz.underlying41
  a31 := Tryz.isAgg41
  z31 := Tryz.sizeOf41
  v31 := Tryz.zeroValue41
  t37 := Tryz.underlying42
  a37 := Tryz.isAgg42
  z37 := Tryz.sizeOf42
  v37 := Tryz.zeroValue42
  t70 := Tryz.underlying70
  a70 := Tryz.isAgg70
  z70 := Tryz.sizeOf70
  v70 := Tryz.zeroValue70
  t72 := Tryz.underlying72
  a72 := Tryz.isAgg72
  z72 := Tryz.sizeOf72
  v72 := Tryz.zeroValue72
  t75 := Tryz.underlying74
  a75 := Tryz.isAgg74
  z75 := Tryz.sizeOf74
  v75 := Tryz.zeroValue74
  t76 := Tryz.underlying76
  a76 := Tryz.isAgg76
  z76 := Tryz.sizeOf76
  v76 := Tryz.zeroValue76
  t127 := Tryz.underlying100
  a127 := Tryz.isAgg100
  z127 := Tryz.sizeOf100
  v127 := Tryz.zeroValue100
  t164 := Tryz.underlying107
  a164 := Tryz.isAgg107
  z164 := Tryz.sizeOf107
  v164 := Tryz.zeroValue107 }
theorem Tryz.Builder_Extra_156 : Builder.Extra Tryz.prog Tryz.lays156_ren := {
  sizeBuilder := by kernel_rfl
  liesBuilder := by kernel_rfl
  t5 := Tryz.underlying5
  a5 := Tryz.isAgg5
  z5 := Tryz.sizeOf5
  v5 := Tryz.zeroValue5
  infoByte := by kernel_rfl
  cellsByte := by kernel_rfl
  sizeByte := by kernel_rfl
  neB5 := by decide }
def Tryz.lays160_ren : Go.Shelf.Ren := ⟨fun | 160 => 118 | 232 => 124 | 231 => 123 | 227 => 125 | 234 => 127 | 233 => 126 | 236 => 129 | 235 => 128 | 228 => 132 | 271 => 134 | 151 => 133 | 197 => 101 | 120 => 141 | 152 => 140 | 260 => 110 | 137 => 147 | 119 => 120 | 224 => 116 | 225 => 115 | 217 => 114 | 266 => 121 | n => n, fun | 9 => 9 | 4 => 4 | 3 => 3 | 5 => 5 | 117 => 140 | 116 => 139 | 0 => 0 | 124 => 143 | 21 => 21 | 105 => 116 | 46 => 91 | 119 => 87 | 139 => 90 | 138 => 89 | n => n, fun | 3 => 0 | 4 => 1 | n => n⟩
theorem Tryz.lays160 : Go.Proofs.Lays.n160 Tryz.prog Tryz.lays160_ren := {
  mixed := by kernel_rfl
  f119 := Tryz.func120.trans (congrArg some (by kernel_rfl))
  f120 := Tryz.func141.trans (congrArg some (by kernel_rfl))
  f137 := Tryz.func147.trans (congrArg some (by kernel_rfl))
  f151 := Tryz.func133.trans (congrArg some (by kernel_rfl))
  f152 := Tryz.func140.trans (congrArg some (by kernel_rfl))
  f160 := Tryz.func118.trans (congrArg some (by kernel_rfl))
  f197 := Tryz.func101.trans (congrArg some (by kernel_rfl))
  f217 := Tryz.func114.trans (congrArg some (by kernel_rfl))
  f224 := Tryz.func116.trans (congrArg some (by kernel_rfl))
  f225 := Tryz.func115.trans (congrArg some (by kernel_rfl))
  f227 := Tryz.func125.trans (congrArg some (by kernel_rfl))
  f228 := Tryz.func132.trans (congrArg some (by kernel_rfl))
  f231 := Tryz.func123.trans (congrArg some (by kernel_rfl))
  f232 := Tryz.func124.trans (congrArg some (by kernel_rfl))
  f233 := Tryz.func126.trans (congrArg some (by kernel_rfl))
  f234 := Tryz.func127.trans (congrArg some (by kernel_rfl))
  f235 := Tryz.func128.trans (congrArg some (by kernel_rfl))
  f236 := Tryz.func129.trans (congrArg some (by kernel_rfl))
  f260 := Tryz.func110.trans (congrArg some (by kernel_rfl))
  f266 := Tryz.func121.trans (congrArg some (by kernel_rfl))
  f271 := Tryz.func134.trans (congrArg some (by kernel_rfl))
  t0 := Tryz.underlying0
  a0 := Tryz.isAgg0
  z0 := Tryz.sizeOf0
  v0 := Tryz.zeroValue0
  t3 := Tryz.underlying3
  a3 := Tryz.isAgg3
  z3 := Tryz.sizeOf3
  v3 := Tryz.zeroValue3
  t4 := Tryz.underlying4
  a4 := Tryz.isAgg4
  z4 := Tryz.sizeOf4
  v4 := Tryz.zeroValue4
  t5 := Tryz.underlying5
  a5 := Tryz.isAgg5
  z5 := Tryz.sizeOf5
  v5 := Tryz.zeroValue5
  t9 := Tryz.underlying9
  a9 := Tryz.isAgg9
  z9 := Tryz.sizeOf9
  v9 := Tryz.zeroValue9
  t21 := Tryz.underlying21
  a21 := Tryz.isAgg21
  z21 := Tryz.sizeOf21
  v21 := Tryz.zeroValue21
  t46 := Tryz.underlying91
  a46 := Tryz.isAgg91
  z46 := Tryz.sizeOf91
  v46 := Tryz.zeroValue91
  t105 := Tryz.underlying116
  a105 := Tryz.isAgg116
  z105 := Tryz.sizeOf116
  v105 := Tryz.zeroValue116
  t116 := Tryz.underlying139
  a116 := Tryz.isAgg139
  z116 := Tryz.sizeOf139
  t117 := Tryz.underlying140
  a117 := Tryz.isAgg140
  z117 := Tryz.sizeOf140
  v117 := Tryz.zeroValue140
  t119 := Tryz.underlying87
  a119 := Tryz.isAgg87
  z119 := Tryz.sizeOf87
  t124 := Tryz.underlying143
  a124 := Tryz.isAgg143
  z124 := Tryz.sizeOf143
  v124 := Tryz.zeroValue143
  t138 := Tryz.underlying89
  a138 := Tryz.isAgg89
  z138 := Tryz.sizeOf89
  v138 := Tryz.zeroValue89
  t139 := Tryz.underlying90
  a139 := Tryz.isAgg90
  z139 := Tryz.sizeOf90
  v139 := Tryz.zeroValue90
  g3 := by kernel_rfl
  g4 := by kernel_rfl }
def Tryz.lays119_ren : Go.Shelf.Ren := ⟨fun | 119 => 120 | n => n, fun | 21 => 21 | 4 => 4 | n => n, fun | n => n⟩
theorem Tryz.lays119 : Go.Proofs.Lays.n119 Tryz.prog Tryz.lays119_ren := {
  mixed := by kernel_rfl
  f119 := Tryz.func120.trans (congrArg some (by kernel_rfl))
  t4 := Tryz.underlying4
  a4 := Tryz.isAgg4
  z4 := Tryz.sizeOf4
  v4 := Tryz.zeroValue4
  t21 := Tryz.underlying21
  a21 := Tryz.isAgg21
  z21 := Tryz.sizeOf21
  v21 := Tryz.zeroValue21 }
def Tryz.lays103_ren : Go.Shelf.Ren := ⟨fun | 103 => 85 | 210 => 99 | 206 => 88 | n => n, fun | 9 => 9 | 4 => 4 | 24 => 36 | 3 => 3 | n => n, fun | n => n⟩
theorem Tryz.lays103 : Go.Proofs.Lays.n103 Tryz.prog Tryz.lays103_ren := {
  mixed := by kernel_rfl
  f103 := Tryz.func85.trans (congrArg some (by kernel_rfl))
  f206 := Tryz.func88.trans (congrArg some (by kernel_rfl))
  f210 := Tryz.func99.trans (congrArg some (by kernel_rfl))
  t3 := Tryz.underlying3
  a3 := Tryz.isAgg3
  z3 := Tryz.sizeOf3
  v3 := Tryz.zeroValue3
  t4 := Tryz.underlying4
  a4 := Tryz.isAgg4
  z4 := Tryz.sizeOf4
  v4 := Tryz.zeroValue4
  t9 := Tryz.underlying9
  a9 := Tryz.isAgg9
  z9 := Tryz.sizeOf9
  v9 := Tryz.zeroValue9
  t24 := Tryz.underlying36
  a24 := Tryz.isAgg36
  z24 := Tryz.sizeOf36
  v24 := Tryz.zeroValue36 }
def Tryz.lays219_ren : Go.Shelf.Ren := ⟨fun | 219 => 109 | 217 => 114 | 225 => 115 | 224 => 116 | 267 => 117 | 266 => 121 | 314 => 122 | n => n, fun | 9 => 9 | 3 => 3 | 4 => 4 | 5 => 5 | 46 => 91 | 146 => 135 | 51 => 109 | n => n, fun | 1 => 3 | n => n⟩
theorem Tryz.lays219 : Go.Proofs.Lays.n219 Tryz.prog Tryz.lays219_ren := {
  mixed := by kernel_rfl
  f217 := Tryz.func114.trans (congrArg some (by kernel_rfl))
  f219 := Tryz.func109.trans (congrArg some (by kernel_rfl))
  f224 := Tryz.func116.trans (congrArg some (by kernel_rfl))
  f225 := Tryz.func115.trans (congrArg some (by kernel_rfl))
  f266 := Tryz.func121.trans (congrArg some (by kernel_rfl))
  f267 := Tryz.func117.trans (congrArg some (by kernel_rfl))
  f314 := Tryz.func122.trans (congrArg some (by kernel_rfl))
  t3 := Tryz.underlying3
  a3 := Tryz.isAgg3
  z3 := Tryz.sizeOf3
  v3 := Tryz.zeroValue3
  t4 := Tryz.underlying4
  a4 := Tryz.isAgg4
  z4 := Tryz.sizeOf4
  v4 := Tryz.zeroValue4
  t5 := Tryz.underlying5
  a5 := Tryz.isAgg5
  z5 := Tryz.sizeOf5
  v5 := Tryz.zeroValue5
  t9 := Tryz.underlying9
  a9 := Tryz.isAgg9
  z9 := Tryz.sizeOf9
  v9 := Tryz.zeroValue9
  t46 := Tryz.underlying91
  a46 := Tryz.isAgg91
  z46 := Tryz.sizeOf91
  v46 := Tryz.zeroValue91
  t51 := Tryz.underlying109
  a51 := Tryz.isAgg109
  z51 := Tryz.sizeOf109
  v51 := Tryz.zeroValue109
  t146 := Tryz.underlying135
  a146 := Tryz.isAgg135
  z146 := Tryz.sizeOf135
  v146 := Tryz.zeroValue135
  g1 := by kernel_rfl }
def Tryz.lays99_ren : Go.Shelf.Ren := ⟨fun | 99 => 68 | 206 => 88 | n => n, fun | 9 => 9 | 4 => 4 | 3 => 3 | n => n, fun | n => n⟩
theorem Tryz.lays99 : Go.Proofs.Lays.n99 Tryz.prog Tryz.lays99_ren := {
  mixed := by kernel_rfl
  f99 := Tryz.func68.trans (congrArg some (by kernel_rfl))
  f206 := Tryz.func88.trans (congrArg some (by kernel_rfl))
  t3 := Tryz.underlying3
  a3 := Tryz.isAgg3
  z3 := Tryz.sizeOf3
  v3 := Tryz.zeroValue3
  t4 := Tryz.underlying4
  a4 := Tryz.isAgg4
  z4 := Tryz.sizeOf4
  v4 := Tryz.zeroValue4
  t9 := Tryz.underlying9
  a9 := Tryz.isAgg9
  z9 := Tryz.sizeOf9
  v9 := Tryz.zeroValue9 }
end Go.Proofs
namespace Go.Proofs.YtkpjfibpaojelaaGreatDoor
open Go Go.Abs Go.RowKit
set_option maxRecDepth 100000
set_option maxHeartbeats 4000000
theorem f85_spec {h : Heap} {n : Nat} (s p : ByteArray) : Tells Tryz.prog 85 [.string s, .string p] h n (.tuple #[.string ⟨(Lib.trimPrefix s.data.toList p.data.toList).toArray⟩, .bool (Lib.hasPrefix s.data.toList p.data.toList)]) :=
  Tells.of_calls rfl rfl fun _ w _ => (Any.strings_CutPrefix Tryz.lays103 s p w).mono fun _ _ ⟨h1, h2⟩ => ⟨h1, h2 ▸ Below.refl _ _⟩
theorem f68_spec {h : Heap} {n : Nat} (s p : ByteArray) : Tells Tryz.prog 68 [.string s, .string p] h n (.bool (Lib.hasPrefix s.data.toList p.data.toList)) :=
  Tells.of_calls rfl rfl fun _ w _ => (Any.strings_HasPrefix Tryz.lays99 s p w).mono fun _ _ ⟨h1, h2⟩ => ⟨h1, h2 ▸ Below.refl _ _⟩
theorem f120_spec {h : Heap} {n : Nat} (r : Int) : Tells Tryz.prog 120 [.int .i32 r] h n (.bool (Lib.validRune r)) :=
  Tells.of_calls rfl rfl fun _ w _ => (Any.utf8_ValidRune Tryz.lays119 r w).mono fun _ _ ⟨h1, h2⟩ => ⟨h1, h2 ▸ Below.refl _ _⟩
theorem f109_spec {h : Heap} {n : Nat} (s : ByteArray) (c : UInt8) : Tells Tryz.prog 109 [.string s, .string ⟨#[c]⟩] h n (.int .i64 (Lib.indexByte s.data.toList c)) :=
  Tells.of_calls rfl rfl fun _ w _ => (Any.stringslite_Index_one Tryz.lays219 s c w).mono fun _ _ ⟨h1, h2⟩ => ⟨h1, h2 ▸ Below.refl _ _⟩
abbrev hexS : ByteArray := ⟨#[48, 49, 50, 51, 52, 53, 54, 55, 56, 57, 97, 98, 99, 100, 101, 102]⟩
theorem f118_spec {h : Heap} {n : Nat} (s : ByteArray) (hs : s.data.toList.length < 9223372036854775807) : Tells Tryz.prog 118 [.string s, .string hexS] h n (.string ⟨(Lib.trimS s.data.toList hexS.data.toList).toArray⟩) :=
  Tells.of_calls rfl rfl fun _ w _ => Any.strings_Trim_laid Tryz.lays160 (by kernel_rfl) s hexS w (by simp at hs; omega) (by decide) (ascii_of_all (by decide))
def encStr : Enc ByteArray := ⟨1, fun s => [.string s], fun _ => rfl, by decide⟩
theorem str_row (xs : List ByteArray) : encStr.row xs = xs.map Value.string := by
  unfold Enc.row
  induction xs with
  | nil => rfl
  | cons b r ih => rw [List.flatMap_cons, List.map_cons, ih]; rfl
theorem tells_of_calls {P : Program} {f : FuncId} {args : List Value} {h : Heap} {n : Nat} {v : Value} (hv : flat v = true)
    (c : ∀ μ args' w, ARel μ args.toArray args' → Rel P μ h n w → Calls P f args' w fun e w' => e = .returned v ∧ Below w.heap.size w w') : Tells P f args h n v := by
  intro μ args' w ha hr
  refine (c μ args' w ha hr).mono ?_
  rintro e w' ⟨rfl, hb⟩
  refine ⟨μ, h, n, .ret v, .ret (.flat_self hv), ⟨?_, hr.sep, hr.bound, hr.glob⟩, ⟨μ.le_refl, hb.size, hb.os, hb.tape, hb.output, fun c hc _ => hb.block c hc, fun b' o' m' a b c _ => ⟨b', o', m', a, b, c, rfl⟩⟩, Nat.le_refl _, rfl, rfl, Nat.le_refl _⟩
  intro b o ho
  obtain ⟨m, x, h1, h2, h3⟩ := hr.obj b o ho
  have hlt : m.blk < w.heap.size := (Array.getElem?_eq_some_iff.1 h2).1
  exact ⟨m, x, h1, by rw [hb.block _ hlt]; exact h2, h3⟩
theorem f39_spec {h : Heap} {n : Nat} {a : Option Addr} {cp : Nat} (xs : List ByteArray) (sep : ByteArray) (q : IsRow encStr h (.slice a xs.length cp) xs) (hN : xs.length ≤ 100000) (hlen : (Lib.join (xs.map (·.data.toList)) sep.data.toList).length ≤ 140737488355328) :
    Tells Tryz.prog 39 [.slice a xs.length cp, .string sep] h n (.string ⟨(Lib.join (xs.map (·.data.toList)) sep.data.toList).toArray⟩) := by
  refine tells_of_calls rfl ?_
  intro μ args' w ha hr
  obtain ⟨v', w2, e1, e2, e3⟩ : ∃ v' w2, args' = #[v', w2] ∧ VRel μ (.slice a xs.length cp) v' ∧ VRel μ (.string sep) w2 := by
    obtain ⟨hs, hx⟩ := ha
    have hs2 : args'.size = 2 := by rw [← hs]; rfl
    obtain ⟨v', hv⟩ : ∃ v', args'[0]? = some v' := ⟨_, Array.getElem?_eq_getElem (by omega)⟩
    obtain ⟨w2, hw⟩ : ∃ w2, args'[1]? = some w2 := ⟨_, Array.getElem?_eq_getElem (by omega)⟩
    refine ⟨v', w2, ?_, hx 0 _ _ rfl hv, hx 1 _ _ rfl hw⟩
    apply Array.ext_getElem?
    intro i
    match i with
    | 0 => rw [hv]; rfl
    | 1 => rw [hw]; rfl
    | i + 2 => rw [Array.getElem?_eq_none (by omega)]; rfl
  subst e1
  cases e3
  rcases q with ⟨rfl, hv | ⟨b, o, cap, hv⟩⟩ | ⟨b, o, cap, cs, own, ci, hv, h1, h2, h3, h4⟩
  · cases hv
    cases e2
    exact (Any.strings_Join_none Tryz.lays156 Tryz.Builder_Extra_156 none 0 sep w).mono fun _ _ ⟨h1, h2⟩ => ⟨h1, h2 ▸ Below.refl _ _⟩
  · cases hv
    cases e2 with
    | slice o len cap cap' hm hc => exact (Any.strings_Join_none Tryz.lays156 Tryz.Builder_Extra_156 _ _ sep w).mono fun _ _ ⟨h1, h2⟩ => ⟨h1, h2 ▸ Below.refl _ _⟩
  · cases hv
    cases e2 with
    | slice o len cap cap' hm hc =>
      rename_i m
      obtain ⟨m', x, g1, g2, g3⟩ := hr.obj b _ h2
      rw [hm] at g1
      cases g1
      cases x with
      | cells c el fr =>
        obtain ⟨k1, k2, k3, _⟩ := g3
        have hk : encStr.k = 1 := rfl
        rw [hk, Nat.one_mul] at h3 h4
        have hlt := (Array.getElem?_eq_some_iff.1 g2).1
        refine Any.strings_Join Tryz.lays156 Tryz.Builder_Extra_156 m.blk (m.off + o) cap' xs sep w ?_ hlt (by omega) ?_ hlen
        · intro j s hj
          have hjl := (List.getElem?_eq_some_iff.1 hj).1
          have hc : cs[o + j]? = some (.string s) := by
            have e := congrArg (fun l : List Value => l[j]?) h3
            simp only [str_row] at e
            rw [List.getElem?_take, if_pos hjl, List.getElem?_drop, List.getElem?_map, hj] at e
            exact e
          obtain ⟨v', q1, q2⟩ := k3 _ _ hc
          have := q2.flat_eq rfl
          subst this
          rw [cell_of_block g2, show m.off + o + j = m.off + (o + j) by omega]
          exact q1
        · rcases hc with ⟨h5, h6⟩ | ⟨h5, h6, _⟩ <;> omega
      | _ => exact g3.elim
end Go.Proofs.YtkpjfibpaojelaaGreatDoor
namespace Go.Proofs.YtkpjfibpaojelaaGreatDoor
open Go Go.Abs
set_option maxRecDepth 100000
set_option maxHeartbeats 4000000
def cutA (l : List UInt8) (c : UInt8) : List UInt8 := l.takeWhile (· != c)
def cutT (l : List UInt8) (c : UInt8) : List UInt8 := (l.dropWhile (· != c)).tail
theorem idx_cut (c : UInt8) : ∀ l : List UInt8, (Lib.indexByte l c = -1 ∧ cutA l c = l ∧ cutT l c = [] ∧ l.contains c = false) ∨
    ∃ i : Nat, Lib.indexByte l c = i ∧ i < l.length ∧ cutA l c = l.take i ∧ cutT l c = l.drop (i + 1) ∧ l.contains c = true
  | [] => .inl ⟨rfl, rfl, rfl, rfl⟩
  | b :: l => by
    by_cases hb : b = c
    · subst hb
      refine .inr ⟨0, by simp [Lib.indexByte], by simp, by simp [cutA], by simp [cutT], by simp⟩
    · have e1 : (b == c) = false := by simpa using hb
      have e2 : (b != c) = true := by simpa using hb
      have e3 : (c == b) = false := by simpa using fun e => hb e.symm
      rcases idx_cut c l with ⟨h1, h2, h3, h4⟩ | ⟨i, h1, h2, h3, h4, h5⟩
      · refine .inl ⟨by simp [Lib.indexByte, e1, h1], ?_, ?_, ?_⟩
        · unfold cutA at *; rw [List.takeWhile_cons, e2, if_pos rfl, h2]
        · unfold cutT at *; rw [List.dropWhile_cons, e2, if_pos rfl, h3]
        · rw [List.contains_cons, e3, h4]; rfl
      · refine .inr ⟨i + 1, ?_, by simp; omega, ?_, ?_, ?_⟩
        · have : ¬ Lib.indexByte l c = -1 := by omega
          simp [Lib.indexByte, e1, this, h1]
        · unfold cutA at *; rw [List.takeWhile_cons, e2, if_pos rfl, h3]; rfl
        · unfold cutT at *; rw [List.dropWhile_cons, e2, if_pos rfl, h4]; rfl
        · rw [List.contains_cons, h5, Bool.or_true]
theorem idx_rng (l : List UInt8) (c : UInt8) : -1 ≤ Lib.indexByte l c ∧ Lib.indexByte l c < (l.length : Nat) := by
  rcases idx_cut c l with ⟨h1, _⟩ | ⟨i, h1, h2, _⟩ <;> omega
theorem subT {s : ByteArray} {i : Int} (_h0 : 0 ≤ i) : sub s 0 i = strB (s.data.toList.take i.toNat) := by simp [sub, sliceS]
theorem subD {s : ByteArray} {i : Int} : sub s i ((s.data.toList.length : Nat) : Int) = strB (s.data.toList.drop i.toNat) := by
  apply ByteArray.ext
  apply Array.ext'
  simp only [sub, sliceS, Int.toNat_natCast]
  exact List.take_of_length_le (by rw [List.length_drop]; omega)
theorem cut_yes {s : ByteArray} {c : UInt8} (h : 0 ≤ Lib.indexByte s.data.toList c) :
    sub s 0 (Lib.indexByte s.data.toList c) = strB (cutA s.data.toList c) ∧ sub s (Lib.indexByte s.data.toList c + 1) ((s.data.toList.length : Nat) : Int) = strB (cutT s.data.toList c) ∧ s.data.toList.contains c = true := by
  rcases idx_cut c s.data.toList with ⟨h1, _⟩ | ⟨i, h1, h2, h3, h4, h5⟩
  · omega
  · rw [h3, h4, subT h, subD, h1]
    exact ⟨by rw [Int.toNat_natCast], by rw [show ((i : Int) + 1).toNat = i + 1 by omega], h5⟩
theorem cut_no {s : ByteArray} {c : UInt8} (h : ¬ 0 ≤ Lib.indexByte s.data.toList c) : s = strB (cutA s.data.toList c) ∧ (⟨#[]⟩ : ByteArray) = strB (cutT s.data.toList c) ∧ s.data.toList.contains c = false := by
  rcases idx_cut c s.data.toList with ⟨h1, h2, h3, h4⟩ | ⟨i, h1, _⟩
  · rw [h2, h3]; exact ⟨rfl, rfl, h4⟩
  · omega
theorem trim_yes {l p : List UInt8} (h : Lib.hasPrefix l p = true) : Lib.trimPrefix l p = l.drop p.length := by unfold Lib.trimPrefix; rw [if_pos h]
theorem f100_spec {h : Heap} {n : Nat} (s : ByteArray) (c : UInt8) (hls : s.data.toList.length < 9223372036854775807) :
    Tells Tryz.prog 100 [.string (s), .string (⟨#[c]⟩)] h n (.tuple #[.string (strB (cutA s.data.toList c)), .string (strB (cutT s.data.toList c)), .bool (s.data.toList.contains c)]) := by
  refine Makes.tells (Makes.free fun hf => ?_)
  have hix := idx_rng s.data.toList c
  have hs : SubBut h h ([]) := .refl _ _
  have hn : n ≤ n := Nat.le_refl _
  have hf0 := hf
  refine Makes.of_bodyV (args := [.string (s), .string (⟨#[c]⟩)]) (vs := [.string (s), .string (⟨#[c]⟩), undef, undef, undef, undef, undef, undef, undef, undef, undef, undef, undef, undef, undef, undef, undef, undef, undef, undef, undef, undef, undef]) Tryz.func100 rfl rfl ?_
  refine AWp.seq (AWp.rowV (l := _) pok ?_)
  refine sq.c (v := .string (⟨#[]⟩)) rfl rfl rfl rfl ?_
  refine sq.c (v := .string (⟨#[]⟩)) rfl rfl rfl rfl ?_
  refine sq.c (v := .bool false) rfl rfl rfl rfl ?_
  refine sq.e (AWp.seq (AWp.seq (AWp.rowV (l := _) pok ?_)))
  refine sq.c (v := .string (s)) rfl rfl rfl rfl ?_
  refine sq.c (v := .string (⟨#[c]⟩)) rfl rfl rfl rfl ?_
  refine sq.t (v := .int .i64 (Lib.indexByte s.data.toList c)) rfl (CallsF.fn rfl (by kernel_rfl) rfl rfl) (fun hf => f109_spec s c) hf rfl ?_
  intro n1 hn2 hf
  have hn := Nat.le_trans hn hn2
  refine sq.c (v := .int .i64 (Lib.indexByte s.data.toList c)) rfl rfl rfl rfl ?_
  refine sq.e (AWp.seq (AWp.rowV (l := _) pok ?_))
  refine sq.c (v := .int .i64 (Lib.indexByte s.data.toList c)) rfl rfl rfl rfl ?_
  refine sq.c (v := .bool (decide ((0 : Int) ≤ (Lib.indexByte s.data.toList c)))) rfl rfl rfl rfl ?_
  refine sq.e ?_
  by_cases c2_1 : (0 : Int) ≤ (Lib.indexByte s.data.toList c)
  · rw [decide_eq_true c2_1]
    refine AWp.condT rfl rfl ?_
    refine AWp.seq ?_
    refine AWp.anyV pok [] [0, 1, 2, 3, 4, 5, 6, 7, 8, 9, 10, 11] (by kernel_rfl) (by kernel_rfl) rfl (fun x fr fr' h n hd _ q => ⟨hd ▸ q.1, q.2⟩) ?_
    refine dq.c (v := .string (s)) rfl (by kernel_rfl) rfl rfl rfl rfl ?_
    refine dq.c (v := .int .i64 (Lib.indexByte s.data.toList c)) rfl (by kernel_rfl) rfl rfl rfl rfl ?_
    refine dq.c (v := .string (sub (s) (0) (Lib.indexByte s.data.toList c))) rfl (by kernel_rfl) rfl rfl (slice_str (P := Tryz.prog) (h := h) (t := 9) (s := s) (l := 0) (u := Lib.indexByte s.data.toList c) (by kernel_rfl) (.inl ⟨rfl, rfl⟩) (.inr ⟨_, rfl⟩) (by omega) (by omega) (by omega)) rfl ?_
    refine dq.c (v := .string (s)) rfl (by kernel_rfl) rfl rfl rfl rfl ?_
    refine dq.c (v := .int .i64 (Lib.indexByte s.data.toList c)) rfl (by kernel_rfl) rfl rfl rfl rfl ?_
    refine dq.c (v := .string (⟨#[c]⟩)) rfl (by kernel_rfl) rfl rfl rfl rfl ?_
    refine dq.c (v := .int .i64 (1)) rfl (by kernel_rfl) rfl rfl (by kernel_rfl) rfl ?_
    refine dq.c (v := .int .i64 ((Lib.indexByte s.data.toList c) + 1)) rfl (by kernel_rfl) rfl rfl (okI (wrap_i64 (by omega) (by omega))) rfl ?_
    refine dq.c (v := .string (sub (s) ((Lib.indexByte s.data.toList c) + 1) ((((s).data.toList.length : Nat) : Int)))) rfl (by kernel_rfl) rfl rfl (slice_str (P := Tryz.prog) (h := h) (t := 9) (s := s) (l := (Lib.indexByte s.data.toList c) + 1) (u := (((s).data.toList.length : Nat) : Int)) (by kernel_rfl) (.inr ⟨_, rfl⟩) (.inl ⟨rfl, rfl⟩) (by omega) (by omega) (by omega)) rfl ?_
    refine dq.c (v := .string (sub (s) (0) (Lib.indexByte s.data.toList c))) rfl (by kernel_rfl) rfl rfl rfl rfl ?_
    refine dq.c (v := .string (sub (s) ((Lib.indexByte s.data.toList c) + 1) ((((s).data.toList.length : Nat) : Int)))) rfl (by kernel_rfl) rfl rfl rfl rfl ?_
    refine dq.c (v := .bool true) rfl (by kernel_rfl) rfl rfl rfl rfl ?_
    refine dq.e ?_
    refine AWp.ret ?_
    refine ⟨rfl, [.string (sub (s) (0) (Lib.indexByte s.data.toList c)), .string (sub (s) ((Lib.indexByte s.data.toList c) + 1) ((((s).data.toList.length : Nat) : Int))), .bool true], rfl, .tuple #[.string (sub (s) (0) (Lib.indexByte s.data.toList c)), .string (sub (s) ((Lib.indexByte s.data.toList c) + 1) ((((s).data.toList.length : Nat) : Int))), .bool true], rfl, hs, hn, ?_⟩
    obtain ⟨e1, e2, e3⟩ := cut_yes c2_1
    rw [e1, e2, e3]
  · rw [decide_eq_false c2_1]
    refine AWp.condF rfl rfl ?_
    refine AWp.skip (AWp.seq (AWp.rowV (l := _) pok ?_))
    refine sq.c (v := .string (s)) rfl rfl rfl rfl ?_
    refine sq.c (v := .string (s)) rfl rfl rfl rfl ?_
    refine sq.c (v := .string (⟨#[]⟩)) rfl rfl rfl rfl ?_
    refine sq.c (v := .bool false) rfl rfl rfl rfl ?_
    refine sq.e ?_
    refine AWp.ret ?_
    refine ⟨rfl, [.string (s), .string (⟨#[]⟩), .bool false], rfl, .tuple #[.string (s), .string (⟨#[]⟩), .bool false], rfl, hs, hn, ?_⟩
    obtain ⟨e1, e2, e3⟩ := cut_no c2_1
    rw [← e1, ← e2, e3]
theorem f86_spec {h : Heap} {n : Nat} (s : ByteArray) (c : UInt8) (hls : s.data.toList.length < 9223372036854775807) :
    Tells Tryz.prog 86 [.string (s), .string (⟨#[c]⟩)] h n (.tuple #[.string (strB (cutA s.data.toList c)), .string (strB (cutT s.data.toList c)), .bool (s.data.toList.contains c)]) := by
  refine Makes.tells (Makes.free fun hf => ?_)
  have hs : SubBut h h ([]) := .refl _ _
  have hn : n ≤ n := Nat.le_refl _
  have hf0 := hf
  refine Makes.of_bodyV (args := [.string (s), .string (⟨#[c]⟩)]) (vs := [.string (s), .string (⟨#[c]⟩), undef, undef, undef, undef, undef, undef, undef, undef, undef, undef, undef]) Tryz.func86 rfl rfl ?_
  refine AWp.seq (AWp.rowV (l := _) pok ?_)
  refine sq.c (v := .string (⟨#[]⟩)) rfl rfl rfl rfl ?_
  refine sq.c (v := .string (⟨#[]⟩)) rfl rfl rfl rfl ?_
  refine sq.c (v := .bool false) rfl rfl rfl rfl ?_
  refine sq.e (AWp.seq (AWp.rowV (l := _) pok ?_))
  refine sq.c (v := .string (s)) rfl rfl rfl rfl ?_
  refine sq.c (v := .string (⟨#[c]⟩)) rfl rfl rfl rfl ?_
  refine sq.t (v := .tuple #[.string (strB (cutA s.data.toList c)), .string (strB (cutT s.data.toList c)), .bool (s.data.toList.contains c)]) rfl (CallsF.fn rfl (by kernel_rfl) rfl rfl) (fun hf => f100_spec s c hls) hf rfl ?_
  intro n1 hn2 hf
  have hn := Nat.le_trans hn hn2
  refine sq.c (v := .string (strB (cutA s.data.toList c))) rfl rfl rfl rfl ?_
  refine sq.c (v := .string (strB (cutT s.data.toList c))) rfl rfl rfl rfl ?_
  refine sq.c (v := .bool (s.data.toList.contains c)) rfl rfl rfl rfl ?_
  refine sq.c (v := .string (strB (cutA s.data.toList c))) rfl rfl rfl rfl ?_
  refine sq.c (v := .string (strB (cutT s.data.toList c))) rfl rfl rfl rfl ?_
  refine sq.c (v := .bool (s.data.toList.contains c)) rfl rfl rfl rfl ?_
  refine sq.e ?_
  refine AWp.ret ?_
  refine ⟨rfl, [.string (strB (cutA s.data.toList c)), .string (strB (cutT s.data.toList c)), .bool (s.data.toList.contains c)], rfl, .tuple #[.string (strB (cutA s.data.toList c)), .string (strB (cutT s.data.toList c)), .bool (s.data.toList.contains c)], rfl, hs, hn, ?_⟩
  rfl
theorem f66_spec {h : Heap} {n : Nat} {b : Nat} {ci : CI} (l : List UInt8) (hb : h.get b = some (.cells [.string (strB l)] true ci)) (p : ByteArray) :
    Throws Tryz.prog 66 [.pointer (some ⟨b, 0, none⟩), .string (p)] h n ([b]) (fun v h2 _ => v = undef ∧ Lib.hasPrefix l p.data.toList = true ∧ h2.get b = some (.cells [.string (strB (l.drop p.data.toList.length))] true ci)) (WRONG) (Lib.hasPrefix l p.data.toList = false) := by
  refine Throws.free fun hf => ?_
  have hs : SubBut h h ([b]) := .refl _ _
  have hn : n ≤ n := Nat.le_refl _
  have hf0 := hf
  refine Throws.of_bodyV (args := [.pointer (some ⟨b, 0, none⟩), .string (p)]) (vs := [.pointer (some ⟨b, 0, none⟩), .string (p), undef, undef, undef, undef, undef, undef, undef, undef, undef, undef, undef, undef, undef, undef, undef, undef, undef, undef, undef]) Tryz.func66 rfl rfl ?_
  refine AWp.seq (AWp.rowV (l := _) pok ?_)
  refine sq.c (v := .pointer (some ⟨b, 0, none⟩)) rfl rfl rfl rfl ?_
  refine sq.c (v := .pointer (some ⟨b, 0, none⟩)) rfl rfl rfl rfl ?_
  refine sq.c (v := .pointer (some ⟨b, 0, none⟩)) rfl rfl (by kernel_rfl) rfl ?_
  refine sq.c (v := .string (strB l)) rfl rfl (ld1 (P := Tryz.prog) (t := 9) (p := 0) (v := .string (strB l)) (by kernel_rfl) (by kernel_rfl) hb rfl) rfl ?_
  refine sq.c (v := .string (p)) rfl rfl rfl rfl ?_
  refine sq.t (v := .tuple #[.string (strB (Lib.trimPrefix l p.data.toList)), .bool (Lib.hasPrefix l p.data.toList)]) rfl (CallsF.fn rfl (by kernel_rfl) rfl rfl) (fun hf => f85_spec (strB l) p) hf rfl ?_
  intro n1 hn2 hf
  have hn := Nat.le_trans hn hn2
  refine sq.c (v := .tuple #[.string (strB (Lib.trimPrefix l p.data.toList)), .bool (Lib.hasPrefix l p.data.toList)]) rfl rfl rfl rfl ?_
  refine sq.c (v := .string (strB (Lib.trimPrefix l p.data.toList))) rfl rfl rfl rfl ?_
  refine sq.c (v := .bool (Lib.hasPrefix l p.data.toList)) rfl rfl rfl rfl ?_
  refine sq.c (v := .string (strB (Lib.trimPrefix l p.data.toList))) rfl rfl rfl rfl ?_
  refine sq.c (v := .bool (Lib.hasPrefix l p.data.toList)) rfl rfl rfl rfl ?_
  refine sq.e (AWp.seq (AWp.rowV (l := _) pok ?_))
  refine sq.c (v := .bool (Lib.hasPrefix l p.data.toList)) rfl rfl rfl rfl ?_
  refine sq.x rfl (CallsF.fn rfl (by kernel_rfl) rfl rfl) (f69_spec (Lib.hasPrefix l p.data.toList)) ?_ ?_
  · intro h2 n3 T_ s4 hn2
    have hs := hs.trans (s4.mono (by simp))
    refine ⟨rfl, .inr ⟨rfl, hs, Nat.le_trans hn hn2, ?_⟩⟩
    exact T_
  · rintro _ h2 n3 ⟨rfl, m_1⟩ s4 hn2 hf
    refine sq.w ?_
    have hb := s4.sub _ _ hb
    have hs := hs.trans (s4.mono (by simp))
    have hn := Nat.le_trans hn hn2
    refine sq.e (AWp.rowV (l := _) pok ?_)
    refine sq.c (v := .pointer (some ⟨b, 0, none⟩)) rfl rfl rfl rfl ?_
    refine sq.c (v := .string (strB (Lib.trimPrefix l p.data.toList))) rfl rfl rfl rfl ?_
    refine sq.c (v := .pointer (some ⟨b, 0, none⟩)) rfl rfl rfl rfl ?_
    refine sq.c (v := .pointer (some ⟨b, 0, none⟩)) rfl rfl (by kernel_rfl) rfl ?_
    refine sq.op rfl rfl (Does.store (k := 1) (xs := [.string (strB (Lib.trimPrefix l p.data.toList))]) (cs' := [.string (strB (Lib.trimPrefix l p.data.toList))]) hf (by kernel_rfl) rfl rfl rfl hb rfl rfl (Nat.le_of_ble_eq_true rfl) rfl) ?_
    rintro _ h6 n7 ⟨rfl, hb5⟩ s8 hn2 hf
    refine sq.w0 ?_
    have hs := hs.at (by simp) s8
    have hn := Nat.le_trans hn hn2
    refine sq.e ?_
    refine ⟨rfl, [], rfl, .inl ⟨undef, rfl, hs, hn, ?_⟩⟩
    rw [trim_yes m_1] at hb5
    exact ⟨rfl, m_1, hb5⟩
def isHexB (b : UInt8) : Bool := hexS.data.toList.contains b
def hexD (b : UInt8) : Nat := if b.toNat < 58 then b.toNat - 48 else b.toNat - 87
def hexV (l : List UInt8) : Nat := l.foldl (fun n b => n * 16 + hexD b) 0
theorem hex_rng {b : UInt8} (h : isHexB b = true) : (48 ≤ b.toNat ∧ b.toNat ≤ 57) ∨ (97 ≤ b.toNat ∧ b.toNat ≤ 102) := by
  have key : ∀ n : Fin 256, isHexB (UInt8.ofNat n.val) = true → (48 ≤ n.val ∧ n.val ≤ 57) ∨ (97 ≤ n.val ∧ n.val ≤ 102) := by decide +kernel
  have := key ⟨b.toNat, b.toNat_lt⟩ (by simpa using h)
  exact this
theorem hexD_lt {b : UInt8} (h : isHexB b = true) : hexD b < 16 := by
  have := hex_rng h
  unfold hexD
  split <;> omega
theorem hexV_snoc (l : List UInt8) (x : UInt8) : hexV (l ++ [x]) = hexV l * 16 + hexD x := by unfold hexV; rw [List.foldl_append]; rfl
theorem hexV_lt : ∀ (k : Nat) (l : List UInt8), l.length = k → l.all isHexB = true → hexV l < 16 ^ k := by
  intro k
  induction k with
  | zero => intro l hl _; rw [List.eq_nil_of_length_eq_zero hl]; decide
  | succ k ih =>
    intro l hl ha
    obtain ⟨m, x, rfl⟩ : ∃ m x, l = m ++ [x] := by
      have hne : l ≠ [] := List.ne_nil_of_length_pos (by omega)
      exact ⟨l.dropLast, l.getLast hne, (List.dropLast_concat_getLast hne).symm⟩
    rw [List.length_append, List.length_singleton] at hl
    rw [List.all_append, Bool.and_eq_true, List.all_cons, Bool.and_eq_true] at ha
    have h1 := ih m (by omega) ha.1
    have h2 := hexD_lt ha.2.1
    rw [hexV_snoc, Nat.pow_succ]
    omega
theorem hexV_step {l : List UInt8} {i : Nat} {x : UInt8} (h : l[i]? = some x) : hexV (l.take (i + 1)) = hexV (l.take i) * 16 + hexD x := by
  obtain ⟨hi, rfl⟩ := List.getElem?_eq_some_iff.1 h
  rw [List.take_succ_eq_append_getElem hi, hexV_snoc]
theorem hexV_six {l : List UInt8} (hl : l.length ≤ 6) (ha : l.all isHexB = true) : hexV l < 16777216 := by
  have h1 := hexV_lt _ l rfl ha
  have : 16 ^ l.length ≤ 16 ^ 6 := Nat.pow_le_pow_right (by decide) hl
  omega
theorem all_take {l : List UInt8} {i : Nat} (ha : l.all isHexB = true) : (l.take i).all isHexB = true := by
  rw [List.all_eq_true] at *
  exact fun x hx => ha x (List.mem_of_mem_take hx)
theorem or32 : ∀ x, 97 ≤ x → x < 123 → x ||| 32 = x := by
  have : ∀ x, x < 123 → 97 ≤ x → x ||| 32 = x := by decide +kernel
  exact fun x a b => this x b a
theorem or_low {x : Int} (h0 : 97 ≤ x) (h1 : x < 123) {c : Bool} : binE Tryz.prog .or 5 false c (.int .u8 x) (.int .u8 32) = some (.int .u8 x) := by
  obtain ⟨y, rfl⟩ : ∃ y : Nat, x = y := ⟨x.toNat, by omega⟩
  have e : (BitVec.ofInt IntKind.u8.bits (y : Int) ||| BitVec.ofInt IntKind.u8.bits ((32 : Nat) : Int)).toNat = y ||| 32 := by
    show (BitVec.ofInt 8 (y : Int) ||| BitVec.ofInt 8 ((32 : Nat) : Int)).toNat = _
    rw [ofInt8, ofInt8, BitVec.toNat_or, BitVec.toNat_ofNat, BitVec.toNat_ofNat, Nat.mod_eq_of_lt (by omega), Nat.mod_eq_of_lt (by omega)]
  show some (Value.int .u8 (IntKind.u8.wrap _)) = _
  rw [show (32 : Int) = ((32 : Nat) : Int) from rfl, e, or32 y (by omega) (by omega), wrap_u8 (by omega) (by omega)]
theorem bt_hex {l : List UInt8} (ha : l.all isHexB = true) (hl : 0 < l.length) : (48 ≤ bt (strB l) 0 ∧ bt (strB l) 0 ≤ 57) ∨ (97 ≤ bt (strB l) 0 ∧ bt (strB l) 0 ≤ 102) := by
  cases l with
  | nil => simp at hl
  | cons x r =>
    rw [List.all_cons, Bool.and_eq_true] at ha
    have := hex_rng ha.1
    show (48 ≤ (x.toNat : Int) ∧ (x.toNat : Int) ≤ 57) ∨ (97 ≤ (x.toNat : Int) ∧ (x.toNat : Int) ≤ 102)
    omega
theorem hexD_or (b : UInt8) : (b.toNat < 58 ∧ hexD b = b.toNat - 48) ∨ (58 ≤ b.toNat ∧ hexD b = b.toNat - 87) := by
  unfold hexD; split <;> omega
theorem f142_spec {h : Heap} {n : Nat} (c : Int) (h0 : 97 ≤ c) (h1 : c < 123) :
    Tells Tryz.prog 142 [.int .u8 (c)] h n (.int .u8 c) := by
  refine Makes.tells (Makes.free fun hf => ?_)
  have hs : SubBut h h ([]) := .refl _ _
  have hn : n ≤ n := Nat.le_refl _
  have hf0 := hf
  refine Makes.of_bodyV (args := [.int .u8 (c)]) (vs := [.int .u8 (c), undef, undef, undef, undef]) Tryz.func142 rfl rfl ?_
  refine AWp.seq (AWp.rowV (l := _) pok ?_)
  refine sq.c (v := .int .u8 (0)) rfl rfl rfl rfl ?_
  refine sq.e (AWp.seq (AWp.rowV (l := _) pok ?_))
  refine sq.c (v := .int .u8 (c)) rfl rfl rfl rfl ?_
  refine sq.c (v := .int .u8 (c)) rfl rfl (or_low (c := true) h0 h1) rfl ?_
  refine sq.c (v := .int .u8 (c)) rfl rfl rfl rfl ?_
  refine sq.e ?_
  refine AWp.ret ?_
  refine ⟨rfl, [.int .u8 (c)], rfl, .int .u8 (c), rfl, hs, hn, ?_⟩
  rfl
theorem f135_spec {h : Heap} {n : Nat} (l : List UInt8) (h0 : 0 < l.length) (h6 : l.length ≤ 6) (ha : l.all isHexB = true) :
    Tells Tryz.prog 135 [.string (strB l), .int .i64 (16), .int .i64 (32)] h n (.tuple #[.int .u64 ((hexV l : Nat) : Int), .nilIface]) := by
  refine Makes.tells (Makes.free fun hf => ?_)
  have hv := hexV_six h6 ha
  have hl6 : (strB l).data.toList.length = l.length := rfl
  have hne : ¬ strB l = (⟨#[]⟩ : ByteArray) := fun e => by have := congrArg (fun s : ByteArray => s.data.toList.length) e; simp at this; subst this; simp at h0
  have hs : SubBut h h ([]) := .refl _ _
  have hn : n ≤ n := Nat.le_refl _
  have hf0 := hf
  refine Makes.of_bodyV (args := [.string (strB l), .int .i64 (16), .int .i64 (32)]) (vs := [.string (strB l), .int .i64 (16), .int .i64 (32), undef, undef, undef, undef, undef, undef, undef, undef, undef, undef, undef, undef, undef, undef, undef, undef, undef, undef, undef, undef, undef, undef, undef, undef, undef, undef, undef, undef, undef, undef, undef, undef, undef, undef, undef, undef, undef, undef, undef, undef, undef, undef, undef, undef, undef, undef, undef, undef, undef, undef, undef, undef, undef, undef, undef, undef, undef, undef, undef, undef, undef, undef, undef, undef, undef, undef, undef, undef, undef, undef, undef, undef, undef, undef, undef, undef, undef, undef, undef, undef, undef, undef, undef, undef, undef, undef, undef, undef, undef, undef, undef, undef, undef, undef, undef, undef, undef, undef, undef, undef, undef, undef, undef, undef, undef, undef, undef, undef, undef, undef, undef, undef, undef, undef, undef, undef, undef, undef, undef, undef, undef, undef, undef, undef, undef, undef, undef, undef, undef, undef, undef, undef, undef, undef, undef, undef, undef, undef, undef, undef, undef, undef, undef, undef, undef, undef, undef, undef, undef, undef, undef, undef, undef, undef, undef, undef, undef, undef, undef, undef, undef, undef, undef, undef, undef, undef, undef, undef, undef]) Tryz.func135 rfl rfl ?_
  refine AWp.seq (AWp.rowV (l := _) pok ?_)
  refine sq.c (v := .int .u64 (0)) rfl rfl rfl rfl ?_
  refine sq.c (v := .nilIface) rfl rfl rfl rfl ?_
  refine sq.e (AWp.seq (AWp.seq (AWp.rowV (l := _) pok ?_)))
  refine sq.c (v := .string (strB l)) rfl rfl rfl rfl ?_
  refine sq.c (v := .bool (decide (strB l = (⟨#[]⟩ : ByteArray)))) rfl rfl (eqD _ _) rfl ?_
  refine sq.e ?_
  by_cases c1_1 : strB l = (⟨#[]⟩ : ByteArray)
  · exfalso
    exact hne c1_1
  · rw [decide_eq_false c1_1]
    refine AWp.condF rfl rfl ?_
    refine AWp.skip (AWp.seq (AWp.rowV (l := _) pok ?_))
    refine sq.c (v := .int .i64 (16)) rfl rfl rfl rfl ?_
    refine sq.c (v := .bool false) rfl rfl rfl rfl ?_
    refine sq.c (v := .bool false) rfl rfl rfl rfl ?_
    refine sq.e (AWp.seq (AWp.rowV (l := _) pok ?_))
    refine sq.c (v := .string (strB l)) rfl rfl rfl rfl ?_
    refine sq.c (v := .string (strB l)) rfl rfl rfl rfl ?_
    refine sq.e (AWp.seq (AWp.block (AWp.seq (AWp.rowV (l := _) pok ?_))))
    refine sq.c (v := .int .i64 (16)) rfl rfl rfl rfl ?_
    refine sq.c (v := .bool true) rfl rfl rfl rfl ?_
    refine sq.c (v := .bool true) rfl rfl rfl rfl ?_
    refine sq.c (v := .int .i64 (16)) (wantT (g := 2) (d := 28) rfl rfl rfl) rfl rfl rfl ?_
    refine sq.c (v := .bool true) (wantT (g := 2) (d := 28) rfl rfl rfl) rfl rfl rfl ?_
    refine sq.c (v := .bool true) rfl rfl rfl rfl ?_
    refine sq.c (v := .bool true) rfl rfl rfl rfl ?_
    refine sq.e ?_
    refine AWp.condT rfl rfl ?_
    refine AWp.skip (AWp.seq (AWp.seq (AWp.rowV (l := _) pok ?_)))
    refine sq.c (v := .int .i64 (32)) rfl rfl rfl rfl ?_
    refine sq.c (v := .bool false) rfl rfl rfl rfl ?_
    refine sq.e ?_
    refine AWp.condF rfl rfl ?_
    refine AWp.seq (AWp.rowV (l := _) pok ?_)
    refine sq.c (v := .int .i64 (32)) rfl rfl rfl rfl ?_
    refine sq.c (v := .bool false) rfl rfl rfl rfl ?_
    refine sq.c (v := .bool false) rfl rfl rfl rfl ?_
    refine sq.c (v := .int .i64 (32)) (wantT (g := 2) (d := 80) rfl rfl rfl) rfl rfl rfl ?_
    refine sq.c (v := .bool false) (wantT (g := 2) (d := 80) rfl rfl rfl) rfl rfl rfl ?_
    refine sq.c (v := .bool false) rfl rfl rfl rfl ?_
    refine sq.e ?_
    refine AWp.condF rfl rfl ?_
    refine AWp.skip (AWp.seq (AWp.rowV (l := _) pok ?_))
    refine sq.c (v := .int .u64 (0)) rfl rfl rfl rfl ?_
    refine sq.e (AWp.seq (AWp.seq (AWp.rowV (l := _) pok ?_)))
    refine sq.c (v := .int .i64 (16)) rfl rfl rfl rfl ?_
    refine sq.e (AWp.block (AWp.seq (AWp.rowV (l := _) pok ?_)))
    refine sq.c (v := .bool false) rfl rfl rfl rfl ?_
    refine sq.c (v := .bool false) rfl rfl rfl rfl ?_
    refine sq.e ?_
    refine AWp.condF rfl rfl ?_
    refine AWp.seq (AWp.rowV (l := _) pok ?_)
    refine sq.c (v := .bool true) rfl rfl rfl rfl ?_
    refine sq.c (v := .bool true) rfl rfl rfl rfl ?_
    refine sq.e ?_
    refine AWp.condT rfl rfl ?_
    refine AWp.rowV (l := _) pok ?_
    refine sq.c (v := .int .u64 (1152921504606846976)) rfl rfl rfl rfl ?_
    refine sq.e (AWp.seq (AWp.rowV (l := _) pok ?_))
    refine sq.c (v := .int .i64 (32)) rfl rfl rfl rfl ?_
    refine sq.c (v := .int .u64 (32)) rfl rfl (by kernel_rfl) rfl ?_
    refine sq.c (v := .int .u64 (4294967296)) rfl rfl (by kernel_rfl) rfl ?_
    refine sq.c (v := .int .u64 (4294967295)) rfl rfl rfl rfl ?_
    refine sq.c (v := .int .u64 (4294967295)) rfl rfl rfl rfl ?_
    refine sq.e (AWp.seq (AWp.rowV (l := _) pok ?_))
    refine sq.c (v := .bool false) rfl rfl rfl rfl ?_
    refine sq.e (AWp.seq (AWp.rowV (l := _) pok ?_))
    refine sq.c (v := .int .u64 (0)) rfl rfl rfl rfl ?_
    refine sq.e (AWp.seq (AWp.seq (AWp.rowV (l := _) pok ?_)))
    refine sq.c (v := .string (strB l)) rfl rfl rfl rfl ?_
    have hz0 : h.get n = none := hf0 _ hn
    refine sq.op rfl rfl (Does.bytesOf (P := Tryz.prog) (e := 5) (b := strB l) (h0 := h) hf (by kernel_rfl) (by kernel_rfl) (by kernel_rfl) rfl (by kernel_rfl) (by exact h0) (by unfold U; omega) hz0) ?_
    rintro _ h1 n2 ⟨rfl, R_s⟩ s3 hn2 hf
    refine sq.w ?_
    have hs := hs.trans s3
    have hn := Nat.le_trans hn hn2
    refine sq.c (v := .int .i64 ((((strB l).data.toList.length : Nat) : Int))) rfl rfl (by kernel_rfl) rfl ?_
    refine sq.c (v := .int .i64 (0)) rfl rfl rfl rfl ?_
    refine sq.e (AWp.block ?_)
    refine AWp.loopV (fun d vs h1' n5 => ∃ (i k : Int), d = ((l.length : Nat) - i + 1).toNat ∧ h1 = h1' ∧ n ≤ n5 ∧ Free h1 n5 ∧ (0 ≤ i) ∧ (i ≤ (l.length : Nat)) ∧ (k = ((hexV (l.take i.toNat) : Nat) : Int)) ∧ ∃ y4 : Nat → Value, vs = [.string (strB l), .int .i64 (16), .int .i64 (32), undef, undef, undef, (y4 6), (y4 7), .bool false, .string (strB l), .int .u64 (1152921504606846976), .int .u64 (4294967295), .bool false, .int .u64 (k), undef, (y4 15), (y4 16), (y4 17), .string (strB l), .bool false, undef, .int .i64 (16), .bool false, .string (strB l), undef, .bool true, .int .i64 (16), .bool true, .bool true, .int .i64 (16), .bool true, .bool true, undef, undef, undef, undef, undef, undef, undef, undef, undef, undef, undef, undef, undef, undef, undef, undef, undef, undef, undef, undef, undef, undef, undef, undef, undef, undef, undef, undef, undef, undef, undef, undef, undef, undef, undef, undef, undef, undef, undef, undef, undef, undef, undef, undef, .int .i64 (32), .bool false, .int .i64 (32), .bool false, .bool false, .int .i64 (32), .bool false, .bool false, undef, .int .i64 (16), undef, undef, undef, undef, .bool false, .bool false, .bool true, .bool true, .int .i64 (32), .int .u64 (32), .int .u64 (4294967296), .int .u64 (4294967295), .string (strB l), .slice (some ⟨n, 0, none⟩) (strB l).data.toList.length U, .int .i64 ((((strB l).data.toList.length : Nat) : Int)), .int .i64 (i), (y4 102), (y4 103), (y4 104), (y4 105), (y4 106), (y4 107), (y4 108), (y4 109), (y4 110), (y4 111), (y4 112), (y4 113), (y4 114), (y4 115), (y4 116), (y4 117), (y4 118), (y4 119), (y4 120), (y4 121), (y4 122), (y4 123), (y4 124), (y4 125), (y4 126), (y4 127), (y4 128), (y4 129), (y4 130), (y4 131), (y4 132), (y4 133), (y4 134), (y4 135), (y4 136), (y4 137), (y4 138), (y4 139), (y4 140), (y4 141), (y4 142), (y4 143), (y4 144), (y4 145), (y4 146), (y4 147), (y4 148), (y4 149), (y4 150), (y4 151), (y4 152), (y4 153), (y4 154), (y4 155), (y4 156), (y4 157), (y4 158), (y4 159), (y4 160), (y4 161), (y4 162), (y4 163), undef, undef, undef, undef, undef, undef, undef, undef]) (((l.length : Nat) - (0 : Int) + 1).toNat) ⟨0, 0, rfl, rfl, hn, hf, (by omega), (by omega), (rfl), getV [undef, undef, undef, undef, undef, undef, .int .u64 (0), .nilIface, undef, undef, undef, undef, undef, undef, undef, undef, undef, undef, undef, undef, undef, undef, undef, undef, undef, undef, undef, undef, undef, undef, undef, undef, undef, undef, undef, undef, undef, undef, undef, undef, undef, undef, undef, undef, undef, undef, undef, undef, undef, undef, undef, undef, undef, undef, undef, undef, undef, undef, undef, undef, undef, undef, undef, undef, undef, undef, undef, undef, undef, undef, undef, undef, undef, undef, undef, undef, undef, undef, undef, undef, undef, undef, undef, undef, undef, undef, undef, undef, undef, undef, undef, undef, undef, undef, undef, undef, undef, undef, undef, undef, undef, undef, undef, undef, undef, undef, undef, undef, undef, undef, undef, undef, undef, undef, undef, undef, undef, undef, undef, undef, undef, undef, undef, undef, undef, undef, undef, undef, undef, undef, undef, undef, undef, undef, undef, undef, undef, undef, undef, undef, undef, undef, undef, undef, undef, undef, undef, undef, undef, undef, undef, undef, undef, undef, undef, undef, undef, undef, undef, undef, undef, undef, undef, undef], rfl⟩ ?_
    rintro d vs h1' n5 ⟨i, k, rfl, rfl, hn, hf, hi0, hi1, hk, y4, rfl⟩
    have hvi := hexV_six (l := l.take i.toNat) (by rw [List.length_take]; omega) (all_take ha)
    refine AWp.seq (AWp.rowV (l := _) pok ?_)
    refine sq.c (v := .bool (decide (i < ((((strB l).data.toList.length : Nat) : Int))))) rfl rfl rfl rfl ?_
    refine sq.e (AWp.seq ?_)
    by_cases c36_0 : i < ((((strB l).data.toList.length : Nat) : Int))
    · rw [decide_eq_true c36_0]
      refine AWp.condT rfl rfl ?_
      refine AWp.skip (AWp.seq (AWp.block (AWp.seq (AWp.rowV (l := _) pok ?_))))
      have i12 : (0 : Int) ≤ (i : Int) := by omega
      obtain ⟨x13, hx_x13⟩ : ∃ x, ((strB l).data.toList)[((i : Int)).toNat]? = some x := ⟨_, List.getElem?_eq_getElem (by omega)⟩
      have gx_x13 := hex_rng (List.all_eq_true.1 ha _ (List.mem_of_getElem? hx_x13))
      have gd_x13 := hexD_or x13
      obtain ⟨b6, o7, cs_b6, ow_b6, ci_b6, ie11, hb8, hc9, hr10⟩ := IsRow.at (P := Tryz.prog) (t := 42) (e := 5) (k := .i64) (by kernel_rfl) (by kernel_rfl) R_s.is i12 hx_x13
      refine sq.c (v := .pointer (some ⟨b6, o7, none⟩)) rfl rfl ie11 rfl ?_
      refine sq.c (v := .int .u8 (((x13).toNat : Int))) rfl rfl (ld1 (P := Tryz.prog) (t := 5) (p := o7 + 0) (v := .int .u8 (((x13).toNat : Int))) (by kernel_rfl) (by kernel_rfl) hb8 (hc9 0 _ rfl)) rfl ?_
      refine sq.c (v := .int .u8 (((x13).toNat : Int))) rfl rfl rfl rfl ?_
      refine sq.e (AWp.seq (AWp.rowV (l := _) pok ?_))
      refine sq.c (v := .int .u8 (0)) rfl rfl rfl rfl ?_
      refine sq.e (AWp.seq (AWp.block (AWp.seq (AWp.rowV (l := _) pok ?_))))
      refine sq.c (v := .int .u8 (((x13).toNat : Int))) rfl rfl rfl rfl ?_
      refine sq.c (v := .bool (decide ((((x13).toNat : Int)) = (95 : Int)))) rfl rfl rfl rfl ?_
      refine sq.c (v := .bool (decide ((((x13).toNat : Int)) = (95 : Int)))) rfl rfl rfl rfl ?_
      by_cases c40_1 : (((x13).toNat : Int)) = (95 : Int)
      · exfalso
        omega
      · rw [decide_eq_false c40_1]
        refine sq.s (wantF (g := 2) (d := 109) rfl rfl rfl) rfl ?_
        refine sq.c (v := .bool false) rfl rfl rfl rfl ?_
        refine sq.c (v := .bool false) rfl rfl rfl rfl ?_
        refine sq.e ?_
        refine AWp.condF rfl rfl ?_
        refine AWp.seq (AWp.rowV (l := _) pok ?_)
        refine sq.c (v := .int .u8 (((x13).toNat : Int))) rfl rfl rfl rfl ?_
        refine sq.c (v := .bool (decide ((48 : Int) ≤ (((x13).toNat : Int))))) rfl rfl rfl rfl ?_
        refine sq.c (v := .bool (decide ((48 : Int) ≤ (((x13).toNat : Int))))) rfl rfl rfl rfl ?_
        by_cases c42_1 : (48 : Int) ≤ (((x13).toNat : Int))
        · rw [decide_eq_true c42_1]
          refine sq.c (v := .int .u8 (((x13).toNat : Int))) (wantT (g := 2) (d := 115) rfl rfl rfl) rfl rfl rfl ?_
          refine sq.c (v := .bool (decide ((((x13).toNat : Int)) ≤ (57 : Int)))) (wantT (g := 2) (d := 115) rfl rfl rfl) rfl rfl rfl ?_
          refine sq.c (v := .bool (decide ((((x13).toNat : Int)) ≤ (57 : Int)))) rfl rfl rfl rfl ?_
          refine sq.c (v := .bool (decide ((((x13).toNat : Int)) ≤ (57 : Int)))) rfl rfl rfl rfl ?_
          refine sq.e ?_
          by_cases c42_4 : (((x13).toNat : Int)) ≤ (57 : Int)
          · rw [decide_eq_true c42_4]
            refine AWp.condT rfl rfl ?_
            refine AWp.rowV (l := _) pok ?_
            refine sq.c (v := .int .u8 (((x13).toNat : Int))) rfl rfl rfl rfl ?_
            refine sq.c (v := .int .u8 ((((x13).toNat : Int)) - 48)) rfl rfl (okI (wrap_u8 (by omega) (by omega))) rfl ?_
            refine sq.c (v := .int .u8 ((((x13).toNat : Int)) - 48)) rfl rfl rfl rfl ?_
            refine sq.e (AWp.seq (AWp.seq (AWp.rowV (l := _) pok ?_)))
            refine sq.c (v := .int .u8 ((((x13).toNat : Int)) - 48)) rfl rfl rfl rfl ?_
            refine sq.c (v := .int .i64 (16)) rfl rfl rfl rfl ?_
            refine sq.c (v := .int .u8 (16)) rfl rfl (by kernel_rfl) rfl ?_
            refine sq.c (v := .bool (decide ((16 : Int) ≤ ((((x13).toNat : Int)) - 48)))) rfl rfl rfl rfl ?_
            refine sq.e ?_
            by_cases c46_3 : (16 : Int) ≤ ((((x13).toNat : Int)) - 48)
            · exfalso
              omega
            · rw [decide_eq_false c46_3]
              refine AWp.condF rfl rfl ?_
              refine AWp.skip (AWp.seq (AWp.seq (AWp.rowV (l := _) pok ?_)))
              refine sq.c (v := .int .u64 (k)) rfl rfl rfl rfl ?_
              refine sq.c (v := .int .u64 (1152921504606846976)) rfl rfl rfl rfl ?_
              refine sq.c (v := .bool (decide ((1152921504606846976 : Int) ≤ k))) rfl rfl rfl rfl ?_
              refine sq.e ?_
              by_cases c48_2 : (1152921504606846976 : Int) ≤ k
              · exfalso
                omega
              · rw [decide_eq_false c48_2]
                refine AWp.condF rfl rfl ?_
                refine AWp.skip (AWp.seq (AWp.rowV (l := _) pok ?_))
                refine sq.c (v := .int .u64 (k)) rfl rfl rfl rfl ?_
                refine sq.c (v := .int .i64 (16)) rfl rfl rfl rfl ?_
                refine sq.c (v := .int .u64 (16)) rfl rfl (by kernel_rfl) rfl ?_
                refine sq.c (v := .int .u64 (k * 16)) rfl rfl (okI (wrap_u64 (by omega) (by omega))) rfl ?_
                refine sq.c (v := .int .u64 (k * 16)) rfl rfl rfl rfl ?_
                refine sq.e (AWp.seq (AWp.rowV (l := _) pok ?_))
                refine sq.c (v := .int .u64 (k * 16)) rfl rfl rfl rfl ?_
                refine sq.c (v := .int .u8 ((((x13).toNat : Int)) - 48)) rfl rfl rfl rfl ?_
                refine sq.c (v := .int .u64 ((((x13).toNat : Int)) - 48)) rfl rfl (Eq.trans (b := some (.int .u64 (IntKind.u64.wrap ((((x13).toNat : Int)) - 48)))) (by kernel_rfl) (okI (wrap_u64 (by omega) (by omega)))) rfl ?_
                refine sq.c (v := .int .u64 ((k * 16) + ((((x13).toNat : Int)) - 48))) rfl rfl (okI (wrap_u64 (by omega) (by omega))) rfl ?_
                refine sq.c (v := .int .u64 ((k * 16) + ((((x13).toNat : Int)) - 48))) rfl rfl rfl rfl ?_
                refine sq.e (AWp.seq (AWp.seq (AWp.rowV (l := _) pok ?_)))
                refine sq.c (v := .int .u64 ((k * 16) + ((((x13).toNat : Int)) - 48))) rfl rfl rfl rfl ?_
                refine sq.c (v := .int .u64 (k * 16)) rfl rfl rfl rfl ?_
                refine sq.c (v := .bool (decide (((k * 16) + ((((x13).toNat : Int)) - 48)) < (k * 16)))) rfl rfl rfl rfl ?_
                refine sq.c (v := .bool (decide (((k * 16) + ((((x13).toNat : Int)) - 48)) < (k * 16)))) rfl rfl rfl rfl ?_
                by_cases c52_2 : ((k * 16) + ((((x13).toNat : Int)) - 48)) < (k * 16)
                · exfalso
                  omega
                · rw [decide_eq_false c52_2]
                  refine sq.c (v := .int .u64 ((k * 16) + ((((x13).toNat : Int)) - 48))) (wantT (g := 3) (d := 155) rfl rfl rfl) rfl rfl rfl ?_
                  refine sq.c (v := .int .u64 (4294967295)) (wantT (g := 3) (d := 155) rfl rfl rfl) rfl rfl rfl ?_
                  refine sq.c (v := .bool (decide ((4294967295 : Int) < ((k * 16) + ((((x13).toNat : Int)) - 48))))) (wantT (g := 3) (d := 155) rfl rfl rfl) rfl rfl rfl ?_
                  refine sq.c (v := .bool (decide ((4294967295 : Int) < ((k * 16) + ((((x13).toNat : Int)) - 48))))) rfl rfl rfl rfl ?_
                  refine sq.e ?_
                  by_cases c52_6 : (4294967295 : Int) < ((k * 16) + ((((x13).toNat : Int)) - 48))
                  · exfalso
                    omega
                  · rw [decide_eq_false c52_6]
                    refine AWp.condF rfl rfl ?_
                    refine AWp.skip (AWp.rowV (l := _) pok ?_)
                    refine sq.c (v := .int .u64 ((k * 16) + ((((x13).toNat : Int)) - 48))) rfl rfl rfl rfl ?_
                    refine sq.c (v := .int .u64 ((k * 16) + ((((x13).toNat : Int)) - 48))) rfl rfl rfl rfl ?_
                    refine sq.e (AWp.rowV (l := _) pok ?_)
                    refine sq.c (v := .int .i64 (i + 1)) rfl rfl (okI (wrap_i64 (by omega) (by omega))) rfl ?_
                    refine sq.c (v := .int .i64 (i + 1)) rfl rfl rfl rfl ?_
                    refine sq.e ?_
                    have hst := hexV_step (l := l) hx_x13
                    rw [show i.toNat + 1 = (i + 1).toNat by omega] at hst
                    refine ⟨_, _, rfl, by omega, i + 1, (k * 16) + ((((x13).toNat : Int)) - 48), rfl, rfl, hn, hf, (by omega), (by omega), (by rw [hst]; omega), getV [undef, undef, undef, undef, undef, undef, (y4 6), (y4 7), undef, undef, undef, undef, undef, undef, undef, .int .u8 (((x13).toNat : Int)), .int .u8 ((((x13).toNat : Int)) - 48), .int .u64 ((k * 16) + ((((x13).toNat : Int)) - 48)), undef, undef, undef, undef, undef, undef, undef, undef, undef, undef, undef, undef, undef, undef, undef, undef, undef, undef, undef, undef, undef, undef, undef, undef, undef, undef, undef, undef, undef, undef, undef, undef, undef, undef, undef, undef, undef, undef, undef, undef, undef, undef, undef, undef, undef, undef, undef, undef, undef, undef, undef, undef, undef, undef, undef, undef, undef, undef, undef, undef, undef, undef, undef, undef, undef, undef, undef, undef, undef, undef, undef, undef, undef, undef, undef, undef, undef, undef, undef, undef, undef, undef, undef, undef, .bool true, .pointer (some ⟨b6, o7, none⟩), .int .u8 (((x13).toNat : Int)), (y4 105), .bool false, .int .u8 (((x13).toNat : Int)), .bool false, .bool false, undef, .bool false, .bool true, .int .u8 (((x13).toNat : Int)), .bool true, .bool true, .int .u8 (((x13).toNat : Int)), .bool true, .bool true, .int .u8 (((x13).toNat : Int)), .int .u8 ((((x13).toNat : Int)) - 48), (y4 121), (y4 122), (y4 123), (y4 124), (y4 125), (y4 126), (y4 127), (y4 128), (y4 129), (y4 130), (y4 131), (y4 132), (y4 133), .int .u8 ((((x13).toNat : Int)) - 48), .int .i64 (16), .int .u8 (16), .bool false, (y4 138), .int .u64 (k), .int .u64 (1152921504606846976), .bool false, (y4 142), (y4 143), .int .u64 (k), .int .i64 (16), .int .u64 (16), .int .u64 (k * 16), .int .u64 (k * 16), .int .u8 ((((x13).toNat : Int)) - 48), .int .u64 ((((x13).toNat : Int)) - 48), .int .u64 ((k * 16) + ((((x13).toNat : Int)) - 48)), .int .u64 ((k * 16) + ((((x13).toNat : Int)) - 48)), .int .u64 (k * 16), .bool false, .bool false, .int .u64 ((k * 16) + ((((x13).toNat : Int)) - 48)), .int .u64 (4294967295), .bool false, .bool false, (y4 160), (y4 161), .int .u64 ((k * 16) + ((((x13).toNat : Int)) - 48)), .int .i64 (i + 1)], rfl⟩
          · rw [decide_eq_false c42_4]
            refine AWp.condF rfl rfl ?_
            refine AWp.seq (AWp.rowV (l := _) pok ?_)
            refine sq.c (v := .int .u8 (((x13).toNat : Int))) rfl rfl rfl rfl ?_
            refine sq.t (v := .int .u8 (((x13).toNat : Int))) rfl (CallsF.fn rfl (by kernel_rfl) rfl rfl) (fun hf => f142_spec ((x13).toNat : Int) (by omega) (by omega)) hf rfl ?_
            intro n14 hn2 hf
            have hn := Nat.le_trans hn hn2
            refine sq.c (v := .bool (decide ((97 : Int) ≤ (((x13).toNat : Int))))) rfl rfl rfl rfl ?_
            refine sq.c (v := .bool (decide ((97 : Int) ≤ (((x13).toNat : Int))))) rfl rfl rfl rfl ?_
            by_cases c44_2 : (97 : Int) ≤ (((x13).toNat : Int))
            · rw [decide_eq_true c44_2]
              refine sq.c (v := .int .u8 (((x13).toNat : Int))) (wantT (g := 3) (d := 125) rfl rfl rfl) rfl rfl rfl ?_
              refine sq.t (v := .int .u8 (((x13).toNat : Int))) (wantT (g := 3) (d := 125) rfl rfl rfl) (CallsF.fn rfl (by kernel_rfl) rfl rfl) (fun hf => f142_spec ((x13).toNat : Int) (by omega) (by omega)) hf rfl ?_
              intro n15 hn2 hf
              have hn := Nat.le_trans hn hn2
              refine sq.c (v := .bool (decide ((((x13).toNat : Int)) ≤ (122 : Int)))) (wantT (g := 3) (d := 125) rfl rfl rfl) rfl rfl rfl ?_
              refine sq.c (v := .bool (decide ((((x13).toNat : Int)) ≤ (122 : Int)))) rfl rfl rfl rfl ?_
              refine sq.c (v := .bool (decide ((((x13).toNat : Int)) ≤ (122 : Int)))) rfl rfl rfl rfl ?_
              refine sq.e ?_
              by_cases c44_6 : (((x13).toNat : Int)) ≤ (122 : Int)
              · rw [decide_eq_true c44_6]
                refine AWp.condT rfl rfl ?_
                refine AWp.rowV (l := _) pok ?_
                refine sq.c (v := .int .u8 (((x13).toNat : Int))) rfl rfl rfl rfl ?_
                refine sq.t (v := .int .u8 (((x13).toNat : Int))) rfl (CallsF.fn rfl (by kernel_rfl) rfl rfl) (fun hf => f142_spec ((x13).toNat : Int) (by omega) (by omega)) hf rfl ?_
                intro n16 hn2 hf
                have hn := Nat.le_trans hn hn2
                refine sq.c (v := .int .u8 ((((x13).toNat : Int)) - 97)) rfl rfl (okI (wrap_u8 (by omega) (by omega))) rfl ?_
                refine sq.c (v := .int .u8 (((((x13).toNat : Int)) - 97) + 10)) rfl rfl (okI (wrap_u8 (by omega) (by omega))) rfl ?_
                refine sq.c (v := .int .u8 (((((x13).toNat : Int)) - 97) + 10)) rfl rfl rfl rfl ?_
                refine sq.e (AWp.seq (AWp.seq (AWp.rowV (l := _) pok ?_)))
                refine sq.c (v := .int .u8 (((((x13).toNat : Int)) - 97) + 10)) rfl rfl rfl rfl ?_
                refine sq.c (v := .int .i64 (16)) rfl rfl rfl rfl ?_
                refine sq.c (v := .int .u8 (16)) rfl rfl (by kernel_rfl) rfl ?_
                refine sq.c (v := .bool (decide ((16 : Int) ≤ (((((x13).toNat : Int)) - 97) + 10)))) rfl rfl rfl rfl ?_
                refine sq.e ?_
                by_cases c46_3 : (16 : Int) ≤ (((((x13).toNat : Int)) - 97) + 10)
                · exfalso
                  omega
                · rw [decide_eq_false c46_3]
                  refine AWp.condF rfl rfl ?_
                  refine AWp.skip (AWp.seq (AWp.seq (AWp.rowV (l := _) pok ?_)))
                  refine sq.c (v := .int .u64 (k)) rfl rfl rfl rfl ?_
                  refine sq.c (v := .int .u64 (1152921504606846976)) rfl rfl rfl rfl ?_
                  refine sq.c (v := .bool (decide ((1152921504606846976 : Int) ≤ k))) rfl rfl rfl rfl ?_
                  refine sq.e ?_
                  by_cases c48_2 : (1152921504606846976 : Int) ≤ k
                  · exfalso
                    omega
                  · rw [decide_eq_false c48_2]
                    refine AWp.condF rfl rfl ?_
                    refine AWp.skip (AWp.seq (AWp.rowV (l := _) pok ?_))
                    refine sq.c (v := .int .u64 (k)) rfl rfl rfl rfl ?_
                    refine sq.c (v := .int .i64 (16)) rfl rfl rfl rfl ?_
                    refine sq.c (v := .int .u64 (16)) rfl rfl (by kernel_rfl) rfl ?_
                    refine sq.c (v := .int .u64 (k * 16)) rfl rfl (okI (wrap_u64 (by omega) (by omega))) rfl ?_
                    refine sq.c (v := .int .u64 (k * 16)) rfl rfl rfl rfl ?_
                    refine sq.e (AWp.seq (AWp.rowV (l := _) pok ?_))
                    refine sq.c (v := .int .u64 (k * 16)) rfl rfl rfl rfl ?_
                    refine sq.c (v := .int .u8 (((((x13).toNat : Int)) - 97) + 10)) rfl rfl rfl rfl ?_
                    refine sq.c (v := .int .u64 (((((x13).toNat : Int)) - 97) + 10)) rfl rfl (Eq.trans (b := some (.int .u64 (IntKind.u64.wrap (((((x13).toNat : Int)) - 97) + 10)))) (by kernel_rfl) (okI (wrap_u64 (by omega) (by omega)))) rfl ?_
                    refine sq.c (v := .int .u64 ((k * 16) + (((((x13).toNat : Int)) - 97) + 10))) rfl rfl (okI (wrap_u64 (by omega) (by omega))) rfl ?_
                    refine sq.c (v := .int .u64 ((k * 16) + (((((x13).toNat : Int)) - 97) + 10))) rfl rfl rfl rfl ?_
                    refine sq.e (AWp.seq (AWp.seq (AWp.rowV (l := _) pok ?_)))
                    refine sq.c (v := .int .u64 ((k * 16) + (((((x13).toNat : Int)) - 97) + 10))) rfl rfl rfl rfl ?_
                    refine sq.c (v := .int .u64 (k * 16)) rfl rfl rfl rfl ?_
                    refine sq.c (v := .bool (decide (((k * 16) + (((((x13).toNat : Int)) - 97) + 10)) < (k * 16)))) rfl rfl rfl rfl ?_
                    refine sq.c (v := .bool (decide (((k * 16) + (((((x13).toNat : Int)) - 97) + 10)) < (k * 16)))) rfl rfl rfl rfl ?_
                    by_cases c52_2 : ((k * 16) + (((((x13).toNat : Int)) - 97) + 10)) < (k * 16)
                    · exfalso
                      omega
                    · rw [decide_eq_false c52_2]
                      refine sq.c (v := .int .u64 ((k * 16) + (((((x13).toNat : Int)) - 97) + 10))) (wantT (g := 3) (d := 155) rfl rfl rfl) rfl rfl rfl ?_
                      refine sq.c (v := .int .u64 (4294967295)) (wantT (g := 3) (d := 155) rfl rfl rfl) rfl rfl rfl ?_
                      refine sq.c (v := .bool (decide ((4294967295 : Int) < ((k * 16) + (((((x13).toNat : Int)) - 97) + 10))))) (wantT (g := 3) (d := 155) rfl rfl rfl) rfl rfl rfl ?_
                      refine sq.c (v := .bool (decide ((4294967295 : Int) < ((k * 16) + (((((x13).toNat : Int)) - 97) + 10))))) rfl rfl rfl rfl ?_
                      refine sq.e ?_
                      by_cases c52_6 : (4294967295 : Int) < ((k * 16) + (((((x13).toNat : Int)) - 97) + 10))
                      · exfalso
                        omega
                      · rw [decide_eq_false c52_6]
                        refine AWp.condF rfl rfl ?_
                        refine AWp.skip (AWp.rowV (l := _) pok ?_)
                        refine sq.c (v := .int .u64 ((k * 16) + (((((x13).toNat : Int)) - 97) + 10))) rfl rfl rfl rfl ?_
                        refine sq.c (v := .int .u64 ((k * 16) + (((((x13).toNat : Int)) - 97) + 10))) rfl rfl rfl rfl ?_
                        refine sq.e (AWp.rowV (l := _) pok ?_)
                        refine sq.c (v := .int .i64 (i + 1)) rfl rfl (okI (wrap_i64 (by omega) (by omega))) rfl ?_
                        refine sq.c (v := .int .i64 (i + 1)) rfl rfl rfl rfl ?_
                        refine sq.e ?_
                        have hst := hexV_step (l := l) hx_x13
                        rw [show i.toNat + 1 = (i + 1).toNat by omega] at hst
                        refine ⟨_, _, rfl, by omega, i + 1, (k * 16) + (((((x13).toNat : Int)) - 97) + 10), rfl, rfl, hn, hf, (by omega), (by omega), (by rw [hst]; omega), getV [undef, undef, undef, undef, undef, undef, (y4 6), (y4 7), undef, undef, undef, undef, undef, undef, undef, .int .u8 (((x13).toNat : Int)), .int .u8 (((((x13).toNat : Int)) - 97) + 10), .int .u64 ((k * 16) + (((((x13).toNat : Int)) - 97) + 10)), undef, undef, undef, undef, undef, undef, undef, undef, undef, undef, undef, undef, undef, undef, undef, undef, undef, undef, undef, undef, undef, undef, undef, undef, undef, undef, undef, undef, undef, undef, undef, undef, undef, undef, undef, undef, undef, undef, undef, undef, undef, undef, undef, undef, undef, undef, undef, undef, undef, undef, undef, undef, undef, undef, undef, undef, undef, undef, undef, undef, undef, undef, undef, undef, undef, undef, undef, undef, undef, undef, undef, undef, undef, undef, undef, undef, undef, undef, undef, undef, undef, undef, undef, undef, .bool true, .pointer (some ⟨b6, o7, none⟩), .int .u8 (((x13).toNat : Int)), (y4 105), .bool false, .int .u8 (((x13).toNat : Int)), .bool false, .bool false, undef, .bool false, .bool false, .int .u8 (((x13).toNat : Int)), .bool true, .bool true, .int .u8 (((x13).toNat : Int)), .bool false, .bool false, (y4 119), (y4 120), .bool true, .int .u8 (((x13).toNat : Int)), .int .u8 (((x13).toNat : Int)), .bool true, .bool true, .int .u8 (((x13).toNat : Int)), .int .u8 (((x13).toNat : Int)), .bool true, .bool true, .int .u8 (((x13).toNat : Int)), .int .u8 (((x13).toNat : Int)), .int .u8 ((((x13).toNat : Int)) - 97), .int .u8 (((((x13).toNat : Int)) - 97) + 10), .int .u8 (((((x13).toNat : Int)) - 97) + 10), .int .i64 (16), .int .u8 (16), .bool false, (y4 138), .int .u64 (k), .int .u64 (1152921504606846976), .bool false, (y4 142), (y4 143), .int .u64 (k), .int .i64 (16), .int .u64 (16), .int .u64 (k * 16), .int .u64 (k * 16), .int .u8 (((((x13).toNat : Int)) - 97) + 10), .int .u64 (((((x13).toNat : Int)) - 97) + 10), .int .u64 ((k * 16) + (((((x13).toNat : Int)) - 97) + 10)), .int .u64 ((k * 16) + (((((x13).toNat : Int)) - 97) + 10)), .int .u64 (k * 16), .bool false, .bool false, .int .u64 ((k * 16) + (((((x13).toNat : Int)) - 97) + 10)), .int .u64 (4294967295), .bool false, .bool false, (y4 160), (y4 161), .int .u64 ((k * 16) + (((((x13).toNat : Int)) - 97) + 10)), .int .i64 (i + 1)], rfl⟩
              · exfalso
                omega
            · exfalso
              omega
        · rw [decide_eq_false c42_1]
          refine sq.s (wantF (g := 2) (d := 115) rfl rfl rfl) rfl ?_
          refine sq.s (wantF (g := 2) (d := 115) rfl rfl rfl) rfl ?_
          refine sq.c (v := .bool false) rfl rfl rfl rfl ?_
          refine sq.c (v := .bool false) rfl rfl rfl rfl ?_
          refine sq.e ?_
          refine AWp.condF rfl rfl ?_
          refine AWp.seq (AWp.rowV (l := _) pok ?_)
          refine sq.c (v := .int .u8 (((x13).toNat : Int))) rfl rfl rfl rfl ?_
          refine sq.t (v := .int .u8 (((x13).toNat : Int))) rfl (CallsF.fn rfl (by kernel_rfl) rfl rfl) (fun hf => f142_spec ((x13).toNat : Int) (by omega) (by omega)) hf rfl ?_
          intro n17 hn2 hf
          have hn := Nat.le_trans hn hn2
          refine sq.c (v := .bool (decide ((97 : Int) ≤ (((x13).toNat : Int))))) rfl rfl rfl rfl ?_
          refine sq.c (v := .bool (decide ((97 : Int) ≤ (((x13).toNat : Int))))) rfl rfl rfl rfl ?_
          by_cases c44_2 : (97 : Int) ≤ (((x13).toNat : Int))
          · rw [decide_eq_true c44_2]
            refine sq.c (v := .int .u8 (((x13).toNat : Int))) (wantT (g := 3) (d := 125) rfl rfl rfl) rfl rfl rfl ?_
            refine sq.t (v := .int .u8 (((x13).toNat : Int))) (wantT (g := 3) (d := 125) rfl rfl rfl) (CallsF.fn rfl (by kernel_rfl) rfl rfl) (fun hf => f142_spec ((x13).toNat : Int) (by omega) (by omega)) hf rfl ?_
            intro n18 hn2 hf
            have hn := Nat.le_trans hn hn2
            refine sq.c (v := .bool (decide ((((x13).toNat : Int)) ≤ (122 : Int)))) (wantT (g := 3) (d := 125) rfl rfl rfl) rfl rfl rfl ?_
            refine sq.c (v := .bool (decide ((((x13).toNat : Int)) ≤ (122 : Int)))) rfl rfl rfl rfl ?_
            refine sq.c (v := .bool (decide ((((x13).toNat : Int)) ≤ (122 : Int)))) rfl rfl rfl rfl ?_
            refine sq.e ?_
            by_cases c44_6 : (((x13).toNat : Int)) ≤ (122 : Int)
            · rw [decide_eq_true c44_6]
              refine AWp.condT rfl rfl ?_
              refine AWp.rowV (l := _) pok ?_
              refine sq.c (v := .int .u8 (((x13).toNat : Int))) rfl rfl rfl rfl ?_
              refine sq.t (v := .int .u8 (((x13).toNat : Int))) rfl (CallsF.fn rfl (by kernel_rfl) rfl rfl) (fun hf => f142_spec ((x13).toNat : Int) (by omega) (by omega)) hf rfl ?_
              intro n19 hn2 hf
              have hn := Nat.le_trans hn hn2
              refine sq.c (v := .int .u8 ((((x13).toNat : Int)) - 97)) rfl rfl (okI (wrap_u8 (by omega) (by omega))) rfl ?_
              refine sq.c (v := .int .u8 (((((x13).toNat : Int)) - 97) + 10)) rfl rfl (okI (wrap_u8 (by omega) (by omega))) rfl ?_
              refine sq.c (v := .int .u8 (((((x13).toNat : Int)) - 97) + 10)) rfl rfl rfl rfl ?_
              refine sq.e (AWp.seq (AWp.seq (AWp.rowV (l := _) pok ?_)))
              refine sq.c (v := .int .u8 (((((x13).toNat : Int)) - 97) + 10)) rfl rfl rfl rfl ?_
              refine sq.c (v := .int .i64 (16)) rfl rfl rfl rfl ?_
              refine sq.c (v := .int .u8 (16)) rfl rfl (by kernel_rfl) rfl ?_
              refine sq.c (v := .bool (decide ((16 : Int) ≤ (((((x13).toNat : Int)) - 97) + 10)))) rfl rfl rfl rfl ?_
              refine sq.e ?_
              by_cases c46_3 : (16 : Int) ≤ (((((x13).toNat : Int)) - 97) + 10)
              · exfalso
                omega
              · rw [decide_eq_false c46_3]
                refine AWp.condF rfl rfl ?_
                refine AWp.skip (AWp.seq (AWp.seq (AWp.rowV (l := _) pok ?_)))
                refine sq.c (v := .int .u64 (k)) rfl rfl rfl rfl ?_
                refine sq.c (v := .int .u64 (1152921504606846976)) rfl rfl rfl rfl ?_
                refine sq.c (v := .bool (decide ((1152921504606846976 : Int) ≤ k))) rfl rfl rfl rfl ?_
                refine sq.e ?_
                by_cases c48_2 : (1152921504606846976 : Int) ≤ k
                · exfalso
                  omega
                · rw [decide_eq_false c48_2]
                  refine AWp.condF rfl rfl ?_
                  refine AWp.skip (AWp.seq (AWp.rowV (l := _) pok ?_))
                  refine sq.c (v := .int .u64 (k)) rfl rfl rfl rfl ?_
                  refine sq.c (v := .int .i64 (16)) rfl rfl rfl rfl ?_
                  refine sq.c (v := .int .u64 (16)) rfl rfl (by kernel_rfl) rfl ?_
                  refine sq.c (v := .int .u64 (k * 16)) rfl rfl (okI (wrap_u64 (by omega) (by omega))) rfl ?_
                  refine sq.c (v := .int .u64 (k * 16)) rfl rfl rfl rfl ?_
                  refine sq.e (AWp.seq (AWp.rowV (l := _) pok ?_))
                  refine sq.c (v := .int .u64 (k * 16)) rfl rfl rfl rfl ?_
                  refine sq.c (v := .int .u8 (((((x13).toNat : Int)) - 97) + 10)) rfl rfl rfl rfl ?_
                  refine sq.c (v := .int .u64 (((((x13).toNat : Int)) - 97) + 10)) rfl rfl (Eq.trans (b := some (.int .u64 (IntKind.u64.wrap (((((x13).toNat : Int)) - 97) + 10)))) (by kernel_rfl) (okI (wrap_u64 (by omega) (by omega)))) rfl ?_
                  refine sq.c (v := .int .u64 ((k * 16) + (((((x13).toNat : Int)) - 97) + 10))) rfl rfl (okI (wrap_u64 (by omega) (by omega))) rfl ?_
                  refine sq.c (v := .int .u64 ((k * 16) + (((((x13).toNat : Int)) - 97) + 10))) rfl rfl rfl rfl ?_
                  refine sq.e (AWp.seq (AWp.seq (AWp.rowV (l := _) pok ?_)))
                  refine sq.c (v := .int .u64 ((k * 16) + (((((x13).toNat : Int)) - 97) + 10))) rfl rfl rfl rfl ?_
                  refine sq.c (v := .int .u64 (k * 16)) rfl rfl rfl rfl ?_
                  refine sq.c (v := .bool (decide (((k * 16) + (((((x13).toNat : Int)) - 97) + 10)) < (k * 16)))) rfl rfl rfl rfl ?_
                  refine sq.c (v := .bool (decide (((k * 16) + (((((x13).toNat : Int)) - 97) + 10)) < (k * 16)))) rfl rfl rfl rfl ?_
                  by_cases c52_2 : ((k * 16) + (((((x13).toNat : Int)) - 97) + 10)) < (k * 16)
                  · exfalso
                    omega
                  · rw [decide_eq_false c52_2]
                    refine sq.c (v := .int .u64 ((k * 16) + (((((x13).toNat : Int)) - 97) + 10))) (wantT (g := 3) (d := 155) rfl rfl rfl) rfl rfl rfl ?_
                    refine sq.c (v := .int .u64 (4294967295)) (wantT (g := 3) (d := 155) rfl rfl rfl) rfl rfl rfl ?_
                    refine sq.c (v := .bool (decide ((4294967295 : Int) < ((k * 16) + (((((x13).toNat : Int)) - 97) + 10))))) (wantT (g := 3) (d := 155) rfl rfl rfl) rfl rfl rfl ?_
                    refine sq.c (v := .bool (decide ((4294967295 : Int) < ((k * 16) + (((((x13).toNat : Int)) - 97) + 10))))) rfl rfl rfl rfl ?_
                    refine sq.e ?_
                    by_cases c52_6 : (4294967295 : Int) < ((k * 16) + (((((x13).toNat : Int)) - 97) + 10))
                    · exfalso
                      omega
                    · rw [decide_eq_false c52_6]
                      refine AWp.condF rfl rfl ?_
                      refine AWp.skip (AWp.rowV (l := _) pok ?_)
                      refine sq.c (v := .int .u64 ((k * 16) + (((((x13).toNat : Int)) - 97) + 10))) rfl rfl rfl rfl ?_
                      refine sq.c (v := .int .u64 ((k * 16) + (((((x13).toNat : Int)) - 97) + 10))) rfl rfl rfl rfl ?_
                      refine sq.e (AWp.rowV (l := _) pok ?_)
                      refine sq.c (v := .int .i64 (i + 1)) rfl rfl (okI (wrap_i64 (by omega) (by omega))) rfl ?_
                      refine sq.c (v := .int .i64 (i + 1)) rfl rfl rfl rfl ?_
                      refine sq.e ?_
                      have hst := hexV_step (l := l) hx_x13
                      rw [show i.toNat + 1 = (i + 1).toNat by omega] at hst
                      refine ⟨_, _, rfl, by omega, i + 1, (k * 16) + (((((x13).toNat : Int)) - 97) + 10), rfl, rfl, hn, hf, (by omega), (by omega), (by rw [hst]; omega), getV [undef, undef, undef, undef, undef, undef, (y4 6), (y4 7), undef, undef, undef, undef, undef, undef, undef, .int .u8 (((x13).toNat : Int)), .int .u8 (((((x13).toNat : Int)) - 97) + 10), .int .u64 ((k * 16) + (((((x13).toNat : Int)) - 97) + 10)), undef, undef, undef, undef, undef, undef, undef, undef, undef, undef, undef, undef, undef, undef, undef, undef, undef, undef, undef, undef, undef, undef, undef, undef, undef, undef, undef, undef, undef, undef, undef, undef, undef, undef, undef, undef, undef, undef, undef, undef, undef, undef, undef, undef, undef, undef, undef, undef, undef, undef, undef, undef, undef, undef, undef, undef, undef, undef, undef, undef, undef, undef, undef, undef, undef, undef, undef, undef, undef, undef, undef, undef, undef, undef, undef, undef, undef, undef, undef, undef, undef, undef, undef, undef, .bool true, .pointer (some ⟨b6, o7, none⟩), .int .u8 (((x13).toNat : Int)), (y4 105), .bool false, .int .u8 (((x13).toNat : Int)), .bool false, .bool false, undef, .bool false, .bool false, .int .u8 (((x13).toNat : Int)), .bool false, .bool false, undef, undef, .bool false, (y4 119), (y4 120), .bool true, .int .u8 (((x13).toNat : Int)), .int .u8 (((x13).toNat : Int)), .bool true, .bool true, .int .u8 (((x13).toNat : Int)), .int .u8 (((x13).toNat : Int)), .bool true, .bool true, .int .u8 (((x13).toNat : Int)), .int .u8 (((x13).toNat : Int)), .int .u8 ((((x13).toNat : Int)) - 97), .int .u8 (((((x13).toNat : Int)) - 97) + 10), .int .u8 (((((x13).toNat : Int)) - 97) + 10), .int .i64 (16), .int .u8 (16), .bool false, (y4 138), .int .u64 (k), .int .u64 (1152921504606846976), .bool false, (y4 142), (y4 143), .int .u64 (k), .int .i64 (16), .int .u64 (16), .int .u64 (k * 16), .int .u64 (k * 16), .int .u8 (((((x13).toNat : Int)) - 97) + 10), .int .u64 (((((x13).toNat : Int)) - 97) + 10), .int .u64 ((k * 16) + (((((x13).toNat : Int)) - 97) + 10)), .int .u64 ((k * 16) + (((((x13).toNat : Int)) - 97) + 10)), .int .u64 (k * 16), .bool false, .bool false, .int .u64 ((k * 16) + (((((x13).toNat : Int)) - 97) + 10)), .int .u64 (4294967295), .bool false, .bool false, (y4 160), (y4 161), .int .u64 ((k * 16) + (((((x13).toNat : Int)) - 97) + 10)), .int .i64 (i + 1)], rfl⟩
            · exfalso
              omega
          · exfalso
            omega
    · rw [decide_eq_false c36_0]
      refine AWp.condF rfl rfl ?_
      refine AWp.exit ?_
      refine AWp.seq (AWp.seq (AWp.rowV (l := _) pok ?_))
      refine sq.c (v := .bool false) rfl rfl rfl rfl ?_
      refine sq.c (v := .bool false) rfl rfl rfl rfl ?_
      refine sq.s (wantF (g := 1) (d := 165) rfl rfl rfl) rfl ?_
      refine sq.s (wantF (g := 1) (d := 165) rfl rfl rfl) rfl ?_
      refine sq.s (wantF (g := 1) (d := 165) rfl rfl rfl) rfl ?_
      refine sq.c (v := .bool false) rfl rfl rfl rfl ?_
      refine sq.e ?_
      refine AWp.condF rfl rfl ?_
      refine AWp.skip (AWp.seq (AWp.rowV (l := _) pok ?_))
      refine sq.c (v := .int .u64 (k)) rfl rfl rfl rfl ?_
      refine sq.c (v := .int .u64 (k)) rfl rfl rfl rfl ?_
      refine sq.c (v := .nilIface) rfl rfl rfl rfl ?_
      refine sq.e ?_
      refine AWp.ret ?_
      refine ⟨rfl, [.int .u64 (k), .nilIface], rfl, .tuple #[.int .u64 (k), .nilIface], rfl, hs, hn, ?_⟩
      rw [show i.toNat = l.length by omega, List.take_length] at hk
      rw [hk]
theorem f130_spec {h : Heap} {n : Nat} (l : List UInt8) (h0 : 0 < l.length) (h6 : l.length ≤ 6) (ha : l.all isHexB = true) :
    Tells Tryz.prog 130 [.string (strB l), .int .i64 (16), .int .i64 (32)] h n (.tuple #[.int .i64 ((hexV l : Nat) : Int), .nilIface]) := by
  refine Makes.tells (Makes.free fun hf => ?_)
  have hv := hexV_six h6 ha
  have hl6 : (strB l).data.toList.length = l.length := rfl
  have hne : ¬ strB l = (⟨#[]⟩ : ByteArray) := fun e => by have := congrArg (fun s : ByteArray => s.data.toList.length) e; simp at this; subst this; simp at h0
  have hb := bt_hex ha h0
  have hs : SubBut h h ([]) := .refl _ _
  have hn : n ≤ n := Nat.le_refl _
  have hf0 := hf
  refine Makes.of_bodyV (args := [.string (strB l), .int .i64 (16), .int .i64 (32)]) (vs := [.string (strB l), .int .i64 (16), .int .i64 (32), undef, undef, undef, undef, undef, undef, undef, undef, undef, undef, undef, undef, undef, undef, undef, undef, undef, undef, undef, undef, undef, undef, undef, undef, undef, undef, undef, undef, undef, undef, undef, undef, undef, undef, undef, undef, undef, undef, undef, undef, undef, undef, undef, undef, undef, undef, undef, undef, undef, undef, undef, undef, undef, undef, undef, undef, undef, undef, undef, undef, undef, undef, undef, undef, undef, undef, undef, undef, undef, undef]) Tryz.func130 rfl rfl ?_
  refine AWp.seq (AWp.rowV (l := _) pok ?_)
  refine sq.c (v := .int .i64 (0)) rfl rfl rfl rfl ?_
  refine sq.c (v := .nilIface) rfl rfl rfl rfl ?_
  refine sq.e (AWp.seq (AWp.seq (AWp.rowV (l := _) pok ?_)))
  refine sq.c (v := .string (strB l)) rfl rfl rfl rfl ?_
  refine sq.c (v := .bool (decide (strB l = (⟨#[]⟩ : ByteArray)))) rfl rfl (eqD _ _) rfl ?_
  refine sq.e ?_
  by_cases c1_1 : strB l = (⟨#[]⟩ : ByteArray)
  · exfalso
    exact hne c1_1
  · rw [decide_eq_false c1_1]
    refine AWp.condF rfl rfl ?_
    refine AWp.skip (AWp.seq (AWp.rowV (l := _) pok ?_))
    refine sq.c (v := .bool false) rfl rfl rfl rfl ?_
    refine sq.e (AWp.seq (AWp.seq (AWp.rowV (l := _) pok ?_)))
    refine sq.c (v := .string (strB l)) rfl rfl rfl rfl ?_
    refine sq.c (v := .int .u8 (bt (strB l) (0))) rfl rfl (index_str (P := Tryz.prog) (t := 9) (s := strB l) (i := 0) (k := .i64) (by kernel_rfl) (by omega) (by omega)) rfl ?_
    refine sq.e (AWp.block (AWp.seq (AWp.rowV (l := _) pok ?_)))
    refine sq.c (v := .bool (decide ((bt (strB l) (0)) = (43 : Int)))) rfl rfl rfl rfl ?_
    refine sq.c (v := .bool (decide ((bt (strB l) (0)) = (43 : Int)))) rfl rfl rfl rfl ?_
    refine sq.e ?_
    by_cases c5_0 : (bt (strB l) (0)) = (43 : Int)
    · exfalso
      omega
    · rw [decide_eq_false c5_0]
      refine AWp.condF rfl rfl ?_
      refine AWp.seq (AWp.rowV (l := _) pok ?_)
      refine sq.c (v := .bool (decide ((bt (strB l) (0)) = (45 : Int)))) rfl rfl rfl rfl ?_
      refine sq.c (v := .bool (decide ((bt (strB l) (0)) = (45 : Int)))) rfl rfl rfl rfl ?_
      refine sq.e ?_
      by_cases c7_0 : (bt (strB l) (0)) = (45 : Int)
      · exfalso
        omega
      · rw [decide_eq_false c7_0]
        refine AWp.condF rfl rfl ?_
        refine AWp.skip (AWp.seq (AWp.rowV (l := _) pok ?_))
        refine sq.c (v := .int .u64 (0)) rfl rfl rfl rfl ?_
        refine sq.e (AWp.seq (AWp.rowV (l := _) pok ?_))
        refine sq.c (v := .string (strB l)) rfl rfl rfl rfl ?_
        refine sq.c (v := .int .i64 (16)) rfl rfl rfl rfl ?_
        refine sq.c (v := .int .i64 (32)) rfl rfl rfl rfl ?_
        refine sq.t (v := .tuple #[.int .u64 (((hexV l : Nat) : Int)), .nilIface]) rfl (CallsF.fn rfl (by kernel_rfl) rfl rfl) (fun hf => f135_spec l h0 h6 ha) hf rfl ?_
        intro n1 hn2 hf
        have hn := Nat.le_trans hn hn2
        refine sq.c (v := .tuple #[.int .u64 (((hexV l : Nat) : Int)), .nilIface]) rfl rfl rfl rfl ?_
        refine sq.c (v := .int .u64 (((hexV l : Nat) : Int))) rfl rfl rfl rfl ?_
        refine sq.c (v := .nilIface) rfl rfl rfl rfl ?_
        refine sq.c (v := .int .u64 (((hexV l : Nat) : Int))) rfl rfl rfl rfl ?_
        refine sq.c (v := .nilIface) rfl rfl rfl rfl ?_
        refine sq.e (AWp.seq (AWp.seq (AWp.rowV (l := _) pok ?_)))
        refine sq.c (v := .nilIface) rfl rfl rfl rfl ?_
        refine sq.c (v := .bool false) rfl rfl (by kernel_rfl) rfl ?_
        refine sq.c (v := .bool false) rfl rfl rfl rfl ?_
        refine sq.s (wantF (g := 2) (d := 34) rfl rfl rfl) rfl ?_
        refine sq.s (wantF (g := 2) (d := 34) rfl rfl rfl) rfl ?_
        refine sq.s (wantF (g := 2) (d := 34) rfl rfl rfl) rfl ?_
        refine sq.c (v := .bool false) rfl rfl rfl rfl ?_
        refine sq.e ?_
        refine AWp.condF rfl rfl ?_
        refine AWp.skip (AWp.seq (AWp.seq (AWp.rowV (l := _) pok ?_)))
        refine sq.c (v := .int .i64 (32)) rfl rfl rfl rfl ?_
        refine sq.c (v := .bool false) rfl rfl rfl rfl ?_
        refine sq.e ?_
        refine AWp.condF rfl rfl ?_
        refine AWp.skip (AWp.seq (AWp.rowV (l := _) pok ?_))
        refine sq.c (v := .int .i64 (32)) rfl rfl rfl rfl ?_
        refine sq.c (v := .int .i64 (31)) rfl rfl rfl rfl ?_
        refine sq.c (v := .int .u64 (31)) rfl rfl (by kernel_rfl) rfl ?_
        refine sq.c (v := .int .u64 (2147483648)) rfl rfl (by kernel_rfl) rfl ?_
        refine sq.c (v := .int .u64 (2147483648)) rfl rfl rfl rfl ?_
        refine sq.e (AWp.seq (AWp.seq (AWp.rowV (l := _) pok ?_)))
        refine sq.c (v := .bool false) rfl rfl rfl rfl ?_
        refine sq.c (v := .bool true) rfl rfl rfl rfl ?_
        refine sq.c (v := .bool true) rfl rfl rfl rfl ?_
        refine sq.c (v := .int .u64 (((hexV l : Nat) : Int))) (wantT (g := 2) (d := 48) rfl rfl rfl) rfl rfl rfl ?_
        refine sq.c (v := .int .u64 (2147483648)) (wantT (g := 2) (d := 48) rfl rfl rfl) rfl rfl rfl ?_
        refine sq.c (v := .bool (decide ((2147483648 : Int) ≤ (((hexV l : Nat) : Int))))) (wantT (g := 2) (d := 48) rfl rfl rfl) rfl rfl rfl ?_
        refine sq.c (v := .bool (decide ((2147483648 : Int) ≤ (((hexV l : Nat) : Int))))) rfl rfl rfl rfl ?_
        refine sq.e ?_
        by_cases c17_5 : (2147483648 : Int) ≤ (((hexV l : Nat) : Int))
        · exfalso
          omega
        · rw [decide_eq_false c17_5]
          refine AWp.condF rfl rfl ?_
          refine AWp.skip (AWp.seq (AWp.seq (AWp.rowV (l := _) pok ?_)))
          refine sq.c (v := .bool false) rfl rfl rfl rfl ?_
          refine sq.c (v := .bool false) rfl rfl rfl rfl ?_
          refine sq.s (wantF (g := 1) (d := 58) rfl rfl rfl) rfl ?_
          refine sq.s (wantF (g := 1) (d := 58) rfl rfl rfl) rfl ?_
          refine sq.s (wantF (g := 1) (d := 58) rfl rfl rfl) rfl ?_
          refine sq.c (v := .bool false) rfl rfl rfl rfl ?_
          refine sq.e ?_
          refine AWp.condF rfl rfl ?_
          refine AWp.skip (AWp.seq (AWp.rowV (l := _) pok ?_))
          refine sq.c (v := .int .u64 (((hexV l : Nat) : Int))) rfl rfl rfl rfl ?_
          refine sq.c (v := .int .i64 (((hexV l : Nat) : Int))) rfl rfl (Eq.trans (b := some (.int .i64 (IntKind.i64.wrap (((hexV l : Nat) : Int))))) (by kernel_rfl) (okI (wrap_i64 (by omega) (by omega)))) rfl ?_
          refine sq.c (v := .int .i64 (((hexV l : Nat) : Int))) rfl rfl rfl rfl ?_
          refine sq.e (AWp.seq (AWp.seq (AWp.rowV (l := _) pok ?_)))
          refine sq.c (v := .bool false) rfl rfl rfl rfl ?_
          refine sq.e ?_
          refine AWp.condF rfl rfl ?_
          refine AWp.skip (AWp.seq (AWp.rowV (l := _) pok ?_))
          refine sq.c (v := .int .i64 (((hexV l : Nat) : Int))) rfl rfl rfl rfl ?_
          refine sq.c (v := .int .i64 (((hexV l : Nat) : Int))) rfl rfl rfl rfl ?_
          refine sq.c (v := .nilIface) rfl rfl rfl rfl ?_
          refine sq.e ?_
          refine AWp.ret ?_
          refine ⟨rfl, [.int .i64 (((hexV l : Nat) : Int)), .nilIface], rfl, .tuple #[.int .i64 (((hexV l : Nat) : Int)), .nilIface], rfl, hs, hn, ?_⟩
          rfl
theorem f119_spec {h : Heap} {n : Nat} (l : List UInt8) (h0 : 0 < l.length) (h6 : l.length ≤ 6) (ha : l.all isHexB = true) :
    Tells Tryz.prog 119 [.string (strB l), .int .i64 (16), .int .i64 (32)] h n (.tuple #[.int .i64 ((hexV l : Nat) : Int), .nilIface]) := by
  refine Makes.tells (Makes.free fun hf => ?_)
  have hs : SubBut h h ([]) := .refl _ _
  have hn : n ≤ n := Nat.le_refl _
  have hf0 := hf
  refine Makes.of_bodyV (args := [.string (strB l), .int .i64 (16), .int .i64 (32)]) (vs := [.string (strB l), .int .i64 (16), .int .i64 (32), undef, undef, undef, undef, undef, undef, undef, undef, undef, undef, undef, undef, undef, undef, undef, undef, undef, undef, undef, undef, undef, undef]) Tryz.func119 rfl rfl ?_
  refine AWp.seq (AWp.rowV (l := _) pok ?_)
  refine sq.c (v := .int .i64 (0)) rfl rfl rfl rfl ?_
  refine sq.c (v := .nilIface) rfl rfl rfl rfl ?_
  refine sq.e (AWp.seq (AWp.rowV (l := _) pok ?_))
  refine sq.c (v := .string (strB l)) rfl rfl rfl rfl ?_
  refine sq.c (v := .int .i64 (16)) rfl rfl rfl rfl ?_
  refine sq.c (v := .int .i64 (32)) rfl rfl rfl rfl ?_
  refine sq.t (v := .tuple #[.int .i64 (((hexV l : Nat) : Int)), .nilIface]) rfl (CallsF.fn rfl (by kernel_rfl) rfl rfl) (fun hf => f130_spec l h0 h6 ha) hf rfl ?_
  intro n1 hn2 hf
  have hn := Nat.le_trans hn hn2
  refine sq.c (v := .tuple #[.int .i64 (((hexV l : Nat) : Int)), .nilIface]) rfl rfl rfl rfl ?_
  refine sq.c (v := .int .i64 (((hexV l : Nat) : Int))) rfl rfl rfl rfl ?_
  refine sq.c (v := .nilIface) rfl rfl rfl rfl ?_
  refine sq.c (v := .int .i64 (((hexV l : Nat) : Int))) rfl rfl rfl rfl ?_
  refine sq.c (v := .nilIface) rfl rfl rfl rfl ?_
  refine sq.e (AWp.seq (AWp.seq (AWp.rowV (l := _) pok ?_)))
  refine sq.c (v := .nilIface) rfl rfl rfl rfl ?_
  refine sq.c (v := .bool false) rfl rfl (by kernel_rfl) rfl ?_
  refine sq.e ?_
  refine AWp.condF rfl rfl ?_
  refine AWp.skip (AWp.seq (AWp.rowV (l := _) pok ?_))
  refine sq.c (v := .int .i64 (((hexV l : Nat) : Int))) rfl rfl rfl rfl ?_
  refine sq.c (v := .int .i64 (((hexV l : Nat) : Int))) rfl rfl rfl rfl ?_
  refine sq.c (v := .nilIface) rfl rfl rfl rfl ?_
  refine sq.e ?_
  refine AWp.ret ?_
  refine ⟨rfl, [.int .i64 (((hexV l : Nat) : Int)), .nilIface], rfl, .tuple #[.int .i64 (((hexV l : Nat) : Int)), .nilIface], rfl, hs, hn, ?_⟩
  rfl
def validN (c : Nat) : Bool := Lib.validRune (c : Int)
def numQ (l : List UInt8) : Prop := Lib.hasPrefix l [123] = true ∧ (l.drop 1).contains 125 = true ∧ cutA (l.drop 1) 125 ≠ [] ∧ (cutA (l.drop 1) 125).length ≤ 6 ∧ (cutA (l.drop 1) 125).all isHexB = true ∧ validN (hexV (cutA (l.drop 1) 125)) = true
instance (l : List UInt8) : Decidable (numQ l) := by unfold numQ; infer_instance
def numP (l : List UInt8) : Option (Nat × List UInt8) := if numQ l then some (hexV (cutA (l.drop 1) 125), cutT (l.drop 1) 125) else none
theorem num_no {l : List UInt8} (h : ¬ numQ l) : numP l = none := if_neg h
theorem num_yes {l : List UInt8} (h : numQ l) : numP l = some (hexV (cutA (l.drop 1) 125), cutT (l.drop 1) 125) := if_pos h
theorem strB_nil {l : List UInt8} (h : strB l = (⟨#[]⟩ : ByteArray)) : l = [] := by
  have := congrArg (fun s : ByteArray => s.data.toList) h
  simpa using this
theorem dropWhile_nil {α : Type} {p : α → Bool} : ∀ {l : List α}, l.dropWhile p = [] ↔ l.all p = true
  | [] => by simp
  | a :: l => by
    rw [List.dropWhile_cons, List.all_cons, Bool.and_eq_true]
    cases e : p a with
    | true => simp only [if_pos trivial, true_and]; exact dropWhile_nil
    | false => simp
theorem trim_all (l cs : List UInt8) : Lib.trimS l cs = [] ↔ l.all (cs.contains ·) = true := by
  unfold Lib.trimS Lib.trimLeftS Lib.trimRightS
  rw [dropWhile_nil]
  constructor
  · intro h
    have h2 := List.takeWhile_append_dropWhile (p := (cs.contains ·)) (l := l.reverse)
    have h3 : l = (l.reverse.dropWhile (cs.contains ·)).reverse ++ (l.reverse.takeWhile (cs.contains ·)).reverse := by
      rw [← List.reverse_append, h2, List.reverse_reverse]
    rw [h3, List.all_append, h, Bool.true_and, List.all_reverse]
    rw [List.all_eq_true]
    exact fun x hx => List.all_eq_true.1 (List.all_takeWhile (p := fun x => cs.contains x) (l := l.reverse)) x hx
  · intro h
    rw [List.all_reverse]
    rw [List.all_eq_true] at *
    exact fun x hx => h x (List.mem_reverse.1 ((List.dropWhile_suffix _).subset hx))
theorem trim_hex {l : List UInt8} : strB (Lib.trimS l hexS.data.toList) = (⟨#[]⟩ : ByteArray) ↔ l.all isHexB = true := by
  constructor
  · intro h; exact (trim_all _ _).1 (strB_nil h)
  · intro h; rw [(trim_all _ _).2 h]
def escP (l : List UInt8) : Option (Nat × List UInt8) :=
  if l = [] then none else if bt (strB l) 0 = 117 then numP (l.drop 1) else if bt (strB l) 0 = 34 ∨ bt (strB l) 0 = 92 then some ((bt (strB l) 0).toNat, l.drop 1) else none
theorem f111_spec {h : Heap} {n : Nat} {b : Nat} {ci : CI} (l : List UInt8) (hb : h.get b = some (.cells [.string (strB l)] true ci)) (hl : l.length < 1000000000) :
    Throws Tryz.prog 111 [.pointer (some ⟨b, 0, none⟩)] h n ([b]) (fun v h2 _ => ∃ (c : Nat) (m : List UInt8), numP l = some (c, m) ∧ v = .int .i32 (c : Int) ∧ h2.get b = some (.cells [.string (strB m)] true ci)) (WRONG) (numP l = none) := by
  refine Throws.free fun hf => ?_
  have hdl : (strB (l.drop 1)).data.toList.length = l.length - 1 := List.length_drop
  have hcl : (strB (cutA (l.drop 1) 125)).data.toList.length ≤ l.length - 1 := by rw [← hdl]; exact (List.takeWhile_sublist _).length_le
  have hs : SubBut h h ([b]) := .refl _ _
  have hn : n ≤ n := Nat.le_refl _
  have hf0 := hf
  refine Throws.of_bodyV (args := [.pointer (some ⟨b, 0, none⟩)]) (vs := [.pointer (some ⟨b, 0, none⟩), undef, undef, undef, undef, undef, undef, undef, undef, undef, undef, undef, undef, undef, undef, undef, undef, undef, undef, undef, undef, undef, undef, undef, undef, undef, undef, undef, undef, undef, undef, undef, undef, undef, undef, undef, undef, undef, undef, undef, undef, undef, undef, undef, undef, undef, undef, undef, undef, undef, undef, undef, undef, undef]) Tryz.func111 rfl rfl ?_
  refine AWp.seq (AWp.rowV (l := _) pok ?_)
  refine sq.c (v := .int .i32 (0)) rfl rfl rfl rfl ?_
  refine sq.e (AWp.seq (AWp.rowV (l := _) pok ?_))
  refine sq.c (v := .pointer (some ⟨b, 0, none⟩)) rfl rfl rfl rfl ?_
  refine sq.x rfl (CallsF.fn rfl (by kernel_rfl) rfl rfl) (f66_spec l hb ⟨#[123]⟩) ?_ ?_
  · intro h2 n3 T_ s4 hn2
    have hs := hs.at (by simp) s4
    refine ⟨rfl, .inr ⟨rfl, hs, Nat.le_trans hn hn2, ?_⟩⟩
    exact num_no fun q => absurd (q.1.symm.trans T_) (by decide)
  · rintro _ h2 n3 ⟨rfl, p_1, hb1⟩ s4 hn2 hf
    refine sq.w ?_
    have hs := hs.at (by simp) s4
    have hn := Nat.le_trans hn hn2
    refine sq.e (AWp.seq (AWp.rowV (l := _) pok ?_))
    refine sq.c (v := .pointer (some ⟨b, 0, none⟩)) rfl rfl rfl rfl ?_
    refine sq.c (v := .pointer (some ⟨b, 0, none⟩)) rfl rfl rfl rfl ?_
    refine sq.c (v := .pointer (some ⟨b, 0, none⟩)) rfl rfl (by kernel_rfl) rfl ?_
    refine sq.c (v := .string (strB (l.drop 1))) rfl rfl (ld1 (P := Tryz.prog) (t := 9) (p := 0) (v := .string (strB (l.drop 1))) (by kernel_rfl) (by kernel_rfl) hb1 rfl) rfl ?_
    refine sq.t (v := .tuple #[.string (strB (cutA (l.drop 1) 125)), .string (strB (cutT (l.drop 1) 125)), .bool ((l.drop 1).contains 125)]) rfl (CallsF.fn rfl (by kernel_rfl) rfl rfl) (fun hf => f86_spec (strB (l.drop 1)) 125 (by omega)) hf rfl ?_
    intro n5 hn2 hf
    have hn := Nat.le_trans hn hn2
    refine sq.c (v := .tuple #[.string (strB (cutA (l.drop 1) 125)), .string (strB (cutT (l.drop 1) 125)), .bool ((l.drop 1).contains 125)]) rfl rfl rfl rfl ?_
    refine sq.c (v := .string (strB (cutA (l.drop 1) 125))) rfl rfl rfl rfl ?_
    refine sq.c (v := .string (strB (cutT (l.drop 1) 125))) rfl rfl rfl rfl ?_
    refine sq.c (v := .bool ((l.drop 1).contains 125)) rfl rfl rfl rfl ?_
    refine sq.c (v := .string (strB (cutA (l.drop 1) 125))) rfl rfl rfl rfl ?_
    refine sq.c (v := .string (strB (cutT (l.drop 1) 125))) rfl rfl rfl rfl ?_
    refine sq.c (v := .bool ((l.drop 1).contains 125)) rfl rfl rfl rfl ?_
    refine sq.e (AWp.seq (AWp.rowV (l := _) pok ?_))
    refine sq.c (v := .bool ((l.drop 1).contains 125)) rfl rfl rfl rfl ?_
    refine sq.c (v := .bool ((l.drop 1).contains 125)) rfl rfl rfl rfl ?_
    rcases Bool.eq_false_or_eq_true ((l.drop 1).contains 125) with c_is | c_is
    · rw [c_is]
      refine sq.c (v := .string (strB (cutA (l.drop 1) 125))) (wantT (g := 1) (d := 20) rfl rfl rfl) rfl rfl rfl ?_
      refine sq.c (v := .bool (!decide (strB (cutA (l.drop 1) 125) = (⟨#[]⟩ : ByteArray)))) (wantT (g := 1) (d := 20) rfl rfl rfl) rfl (neD _ _) rfl ?_
      refine sq.c (v := .bool (!decide (strB (cutA (l.drop 1) 125) = (⟨#[]⟩ : ByteArray)))) rfl rfl rfl rfl ?_
      refine sq.c (v := .bool (!decide (strB (cutA (l.drop 1) 125) = (⟨#[]⟩ : ByteArray)))) rfl rfl rfl rfl ?_
      by_cases c3_3 : strB (cutA (l.drop 1) 125) = (⟨#[]⟩ : ByteArray)
      · rw [decide_eq_true c3_3]
        refine sq.s (wantF (g := 5) (d := 24) rfl rfl rfl) rfl ?_
        refine sq.s (wantF (g := 5) (d := 24) rfl rfl rfl) rfl ?_
        refine sq.s (wantF (g := 5) (d := 24) rfl rfl rfl) rfl ?_
        refine sq.c (v := .bool false) rfl rfl rfl rfl ?_
        refine sq.c (v := .bool false) rfl rfl rfl rfl ?_
        refine sq.s (wantF (g := 10) (d := 29) rfl rfl rfl) rfl ?_
        refine sq.s (wantF (g := 10) (d := 29) rfl rfl rfl) rfl ?_
        refine sq.s (wantF (g := 10) (d := 29) rfl rfl rfl) rfl ?_
        refine sq.c (v := .bool false) rfl rfl rfl rfl ?_
        refine sq.x rfl (CallsF.fn rfl (by kernel_rfl) rfl rfl) (f69_spec false) ?_ ?_
        · intro h6 n7 T_ s8 hn2
          have hs := hs.trans (s8.mono (by simp))
          refine ⟨rfl, .inr ⟨rfl, hs, Nat.le_trans hn hn2, ?_⟩⟩
          exact num_no fun q => q.2.2.1 (strB_nil c3_3)
        · rintro _ h6 n7 ⟨rfl, m_1⟩ s8 hn2 hf
          cases m_1
      · rw [decide_eq_false c3_3]
        refine sq.c (v := .string (strB (cutA (l.drop 1) 125))) (wantT (g := 5) (d := 24) rfl rfl rfl) rfl rfl rfl ?_
        refine sq.c (v := .int .i64 ((((strB (cutA (l.drop 1) 125)).data.toList.length : Nat) : Int))) (wantT (g := 5) (d := 24) rfl rfl rfl) rfl (by kernel_rfl) rfl ?_
        refine sq.c (v := .bool (decide (((((strB (cutA (l.drop 1) 125)).data.toList.length : Nat) : Int)) ≤ (6 : Int)))) (wantT (g := 5) (d := 24) rfl rfl rfl) rfl rfl rfl ?_
        refine sq.c (v := .bool (decide (((((strB (cutA (l.drop 1) 125)).data.toList.length : Nat) : Int)) ≤ (6 : Int)))) rfl rfl rfl rfl ?_
        refine sq.c (v := .bool (decide (((((strB (cutA (l.drop 1) 125)).data.toList.length : Nat) : Int)) ≤ (6 : Int)))) rfl rfl rfl rfl ?_
        by_cases c3_8 : ((((strB (cutA (l.drop 1) 125)).data.toList.length : Nat) : Int)) ≤ (6 : Int)
        · rw [decide_eq_true c3_8]
          refine sq.c (v := .string (strB (cutA (l.drop 1) 125))) (wantT (g := 10) (d := 29) rfl rfl rfl) rfl rfl rfl ?_
          refine sq.t (v := .string (strB (Lib.trimS (cutA (l.drop 1) 125) hexS.data.toList))) (wantT (g := 10) (d := 29) rfl rfl rfl) (CallsF.fn rfl (by kernel_rfl) rfl rfl) (fun hf => f118_spec (strB (cutA (l.drop 1) 125)) (by omega)) hf rfl ?_
          intro n9 hn2 hf
          have hn := Nat.le_trans hn hn2
          refine sq.c (v := .bool (decide (strB (Lib.trimS (cutA (l.drop 1) 125) hexS.data.toList) = (⟨#[]⟩ : ByteArray)))) (wantT (g := 10) (d := 29) rfl rfl rfl) rfl (eqD _ _) rfl ?_
          refine sq.c (v := .bool (decide (strB (Lib.trimS (cutA (l.drop 1) 125) hexS.data.toList) = (⟨#[]⟩ : ByteArray)))) rfl rfl rfl rfl ?_
          refine sq.x rfl (CallsF.fn rfl (by kernel_rfl) rfl rfl) (f69_spec (decide (strB (Lib.trimS (cutA (l.drop 1) 125) hexS.data.toList) = (⟨#[]⟩ : ByteArray)))) ?_ ?_
          · intro h10 n11 T_ s12 hn2
            have hs := hs.trans (s12.mono (by simp))
            refine ⟨rfl, .inr ⟨rfl, hs, Nat.le_trans hn hn2, ?_⟩⟩
            exact num_no fun q => of_decide_eq_false T_ (trim_hex.2 q.2.2.2.2.1)
          · rintro _ h10 n11 ⟨rfl, m_1⟩ s12 hn2 hf
            refine sq.w ?_
            have hb1 := s12.sub _ _ hb1
            have hs := hs.trans (s12.mono (by simp))
            have hn := Nat.le_trans hn hn2
            refine sq.e (AWp.seq (AWp.rowV (l := _) pok ?_))
            refine sq.c (v := .string (strB (cutA (l.drop 1) 125))) rfl rfl rfl rfl ?_
            have hx := trim_hex.1 (of_decide_eq_true m_1)
            have h6 : (cutA (l.drop 1) 125).length ≤ 6 := Int.ofNat_le.1 (show (((cutA (l.drop 1) 125).length : Nat) : Int) ≤ ((6 : Nat) : Int) from c3_8)
            have hn0 : (cutA (l.drop 1) 125) ≠ [] := fun e => c3_3 (by rw [e])
            have hv6 := hexV_six h6 hx
            refine sq.t (v := .tuple #[.int .i64 (((hexV (cutA (l.drop 1) 125) : Nat) : Int)), .nilIface]) rfl (CallsF.fn rfl (by kernel_rfl) rfl rfl) (fun hf => f119_spec (cutA (l.drop 1) 125) (List.length_pos_iff.2 hn0) h6 hx) hf rfl ?_
            intro n13 hn2 hf
            have hn := Nat.le_trans hn hn2
            refine sq.c (v := .tuple #[.int .i64 (((hexV (cutA (l.drop 1) 125) : Nat) : Int)), .nilIface]) rfl rfl rfl rfl ?_
            refine sq.c (v := .int .i64 (((hexV (cutA (l.drop 1) 125) : Nat) : Int))) rfl rfl rfl rfl ?_
            refine sq.c (v := .nilIface) rfl rfl rfl rfl ?_
            refine sq.c (v := .int .i64 (((hexV (cutA (l.drop 1) 125) : Nat) : Int))) rfl rfl rfl rfl ?_
            refine sq.c (v := .nilIface) rfl rfl rfl rfl ?_
            refine sq.e (AWp.seq (AWp.rowV (l := _) pok ?_))
            refine sq.c (v := .nilIface) rfl rfl rfl rfl ?_
            refine sq.c (v := .bool true) rfl rfl (by kernel_rfl) rfl ?_
            refine sq.c (v := .bool true) rfl rfl rfl rfl ?_
            refine sq.c (v := .int .i64 (((hexV (cutA (l.drop 1) 125) : Nat) : Int))) (wantT (g := 2) (d := 42) rfl rfl rfl) rfl rfl rfl ?_
            refine sq.c (v := .int .i32 (((hexV (cutA (l.drop 1) 125) : Nat) : Int))) (wantT (g := 2) (d := 42) rfl rfl rfl) rfl (Eq.trans (b := some (.int .i32 (IntKind.i32.wrap (((hexV (cutA (l.drop 1) 125) : Nat) : Int))))) (by kernel_rfl) (okI (wrap_i32 (by omega) (by omega)))) rfl ?_
            refine sq.t (v := .bool (Lib.validRune ((hexV (cutA (l.drop 1) 125) : Nat) : Int))) (wantT (g := 2) (d := 42) rfl rfl rfl) (CallsF.fn rfl (by kernel_rfl) rfl rfl) (fun hf => f120_spec _) hf rfl ?_
            intro n14 hn2 hf
            have hn := Nat.le_trans hn hn2
            refine sq.c (v := .bool (Lib.validRune ((hexV (cutA (l.drop 1) 125) : Nat) : Int))) rfl rfl rfl rfl ?_
            refine sq.x rfl (CallsF.fn rfl (by kernel_rfl) rfl rfl) (f69_spec (Lib.validRune ((hexV (cutA (l.drop 1) 125) : Nat) : Int))) ?_ ?_
            · intro h15 n16 T_ s17 hn2
              have hs := hs.trans (s17.mono (by simp))
              refine ⟨rfl, .inr ⟨rfl, hs, Nat.le_trans hn hn2, ?_⟩⟩
              exact num_no fun q => absurd (q.2.2.2.2.2.symm.trans T_) (by decide)
            · rintro _ h15 n16 ⟨rfl, m_2⟩ s17 hn2 hf
              refine sq.w ?_
              have hb1 := s17.sub _ _ hb1
              have hs := hs.trans (s17.mono (by simp))
              have hn := Nat.le_trans hn hn2
              refine sq.e (AWp.seq (AWp.rowV (l := _) pok ?_))
              refine sq.c (v := .pointer (some ⟨b, 0, none⟩)) rfl rfl rfl rfl ?_
              refine sq.c (v := .string (strB (cutT (l.drop 1) 125))) rfl rfl rfl rfl ?_
              refine sq.c (v := .pointer (some ⟨b, 0, none⟩)) rfl rfl rfl rfl ?_
              refine sq.c (v := .pointer (some ⟨b, 0, none⟩)) rfl rfl (by kernel_rfl) rfl ?_
              refine sq.op rfl rfl (Does.store (k := 1) (xs := [.string (strB (cutT (l.drop 1) 125))]) (cs' := [.string (strB (cutT (l.drop 1) 125))]) hf (by kernel_rfl) rfl rfl rfl hb1 rfl rfl (Nat.le_of_ble_eq_true rfl) rfl) ?_
              rintro _ h19 n20 ⟨rfl, hb18⟩ s21 hn2 hf
              refine sq.w0 ?_
              have hs := hs.at (by simp) s21
              have hn := Nat.le_trans hn hn2
              refine sq.e (AWp.seq (AWp.rowV (l := _) pok ?_))
              refine sq.c (v := .int .i64 (((hexV (cutA (l.drop 1) 125) : Nat) : Int))) rfl rfl rfl rfl ?_
              refine sq.c (v := .int .i32 (((hexV (cutA (l.drop 1) 125) : Nat) : Int))) rfl rfl (Eq.trans (b := some (.int .i32 (IntKind.i32.wrap (((hexV (cutA (l.drop 1) 125) : Nat) : Int))))) (by kernel_rfl) (okI (wrap_i32 (by omega) (by omega)))) rfl ?_
              refine sq.c (v := .int .i32 (((hexV (cutA (l.drop 1) 125) : Nat) : Int))) rfl rfl rfl rfl ?_
              refine sq.e ?_
              refine AWp.ret ?_
              refine ⟨rfl, [.int .i32 (((hexV (cutA (l.drop 1) 125) : Nat) : Int))], rfl, .inl ⟨.int .i32 (((hexV (cutA (l.drop 1) 125) : Nat) : Int)), rfl, hs, hn, ?_⟩⟩
              exact ⟨_, _, num_yes ⟨p_1, c_is, hn0, h6, hx, m_2⟩, rfl, hb18⟩
        · rw [decide_eq_false c3_8]
          refine sq.s (wantF (g := 10) (d := 29) rfl rfl rfl) rfl ?_
          refine sq.s (wantF (g := 10) (d := 29) rfl rfl rfl) rfl ?_
          refine sq.s (wantF (g := 10) (d := 29) rfl rfl rfl) rfl ?_
          refine sq.c (v := .bool false) rfl rfl rfl rfl ?_
          refine sq.x rfl (CallsF.fn rfl (by kernel_rfl) rfl rfl) (f69_spec false) ?_ ?_
          · intro h22 n23 T_ s24 hn2
            have hs := hs.trans (s24.mono (by simp))
            refine ⟨rfl, .inr ⟨rfl, hs, Nat.le_trans hn hn2, ?_⟩⟩
            exact num_no fun q => c3_8 (by have := q.2.2.2.1; show (((cutA (l.drop 1) 125).length : Nat) : Int) ≤ 6; omega)
          · rintro _ h22 n23 ⟨rfl, m_1⟩ s24 hn2 hf
            cases m_1
    · rw [c_is]
      refine sq.s (wantF (g := 1) (d := 20) rfl rfl rfl) rfl ?_
      refine sq.s (wantF (g := 1) (d := 20) rfl rfl rfl) rfl ?_
      refine sq.c (v := .bool false) rfl rfl rfl rfl ?_
      refine sq.c (v := .bool false) rfl rfl rfl rfl ?_
      refine sq.s (wantF (g := 5) (d := 24) rfl rfl rfl) rfl ?_
      refine sq.s (wantF (g := 5) (d := 24) rfl rfl rfl) rfl ?_
      refine sq.s (wantF (g := 5) (d := 24) rfl rfl rfl) rfl ?_
      refine sq.c (v := .bool false) rfl rfl rfl rfl ?_
      refine sq.c (v := .bool false) rfl rfl rfl rfl ?_
      refine sq.s (wantF (g := 10) (d := 29) rfl rfl rfl) rfl ?_
      refine sq.s (wantF (g := 10) (d := 29) rfl rfl rfl) rfl ?_
      refine sq.s (wantF (g := 10) (d := 29) rfl rfl rfl) rfl ?_
      refine sq.c (v := .bool false) rfl rfl rfl rfl ?_
      refine sq.x rfl (CallsF.fn rfl (by kernel_rfl) rfl rfl) (f69_spec false) ?_ ?_
      · intro h25 n26 T_ s27 hn2
        have hs := hs.trans (s27.mono (by simp))
        refine ⟨rfl, .inr ⟨rfl, hs, Nat.le_trans hn hn2, ?_⟩⟩
        exact num_no fun q => by rw [q.2.1] at c_is; cases c_is
      · rintro _ h25 n26 ⟨rfl, m_1⟩ s27 hn2 hf
        cases m_1
theorem f102_spec {h : Heap} {n : Nat} {b : Nat} {ci : CI} (l : List UInt8) (hb : h.get b = some (.cells [.string (strB l)] true ci)) (hl : l.length < 1000000000) :
    Throws Tryz.prog 102 [.pointer (some ⟨b, 0, none⟩)] h n ([b]) (fun v h2 _ => ∃ (c : Nat) (m : List UInt8), escP l = some (c, m) ∧ v = .int .i32 (c : Int) ∧ h2.get b = some (.cells [.string (strB m)] true ci)) (WRONG) (escP l = none) := by
  refine Throws.free fun hf => ?_
  have hll : (strB l).data.toList.length = l.length := rfl
  have hdl : (l.drop 1).length = l.length - 1 := List.length_drop
  have hbt := bt_lt (strB l) 0
  have hs : SubBut h h ([b]) := .refl _ _
  have hn : n ≤ n := Nat.le_refl _
  have hf0 := hf
  refine Throws.of_bodyV (args := [.pointer (some ⟨b, 0, none⟩)]) (vs := [.pointer (some ⟨b, 0, none⟩), undef, undef, undef, undef, undef, undef, undef, undef, undef, undef, undef, undef, undef, undef, undef, undef, undef, undef, undef, undef, undef, undef, undef, undef, undef, undef, undef, undef, undef, undef, undef, undef, undef, undef, undef]) Tryz.func102 rfl rfl ?_
  refine AWp.seq (AWp.rowV (l := _) pok ?_)
  refine sq.c (v := .int .i32 (0)) rfl rfl rfl rfl ?_
  refine sq.e (AWp.seq (AWp.rowV (l := _) pok ?_))
  refine sq.c (v := .pointer (some ⟨b, 0, none⟩)) rfl rfl rfl rfl ?_
  refine sq.c (v := .pointer (some ⟨b, 0, none⟩)) rfl rfl rfl rfl ?_
  refine sq.c (v := .pointer (some ⟨b, 0, none⟩)) rfl rfl (by kernel_rfl) rfl ?_
  refine sq.c (v := .string (strB l)) rfl rfl (ld1 (P := Tryz.prog) (t := 9) (p := 0) (v := .string (strB l)) (by kernel_rfl) (by kernel_rfl) hb rfl) rfl ?_
  refine sq.c (v := .bool (!decide (strB l = (⟨#[]⟩ : ByteArray)))) rfl rfl (neD _ _) rfl ?_
  refine sq.x rfl (CallsF.fn rfl (by kernel_rfl) rfl rfl) (f69_spec (!decide (strB l = (⟨#[]⟩ : ByteArray)))) ?_ ?_
  · intro h1 n2 T_ s3 hn2
    have hs := hs.trans (s3.mono (by simp))
    refine ⟨rfl, .inr ⟨rfl, hs, Nat.le_trans hn hn2, ?_⟩⟩
    have e : strB l = (⟨#[]⟩ : ByteArray) := of_decide_eq_true (by simpa using congrArg not T_)
    unfold escP; rw [if_pos (strB_nil e)]
  · rintro _ h1 n2 ⟨rfl, m_1⟩ s3 hn2 hf
    refine sq.w ?_
    have hb := s3.sub _ _ hb
    have hs := hs.trans (s3.mono (by simp))
    have hn := Nat.le_trans hn hn2
    have hne : l ≠ [] := fun e => by subst e; cases m_1
    have hpos : 0 < (strB l).data.toList.length := List.length_pos_iff.2 hne
    refine sq.e (AWp.seq (AWp.rowV (l := _) pok ?_))
    refine sq.c (v := .pointer (some ⟨b, 0, none⟩)) rfl rfl rfl rfl ?_
    refine sq.c (v := .pointer (some ⟨b, 0, none⟩)) rfl rfl rfl rfl ?_
    refine sq.c (v := .pointer (some ⟨b, 0, none⟩)) rfl rfl (by kernel_rfl) rfl ?_
    refine sq.c (v := .string (strB l)) rfl rfl (ld1 (P := Tryz.prog) (t := 9) (p := 0) (v := .string (strB l)) (by kernel_rfl) (by kernel_rfl) hb rfl) rfl ?_
    refine sq.c (v := .int .u8 (bt (strB l) (0))) rfl rfl (index_str (P := Tryz.prog) (t := 9) (s := strB l) (i := 0) (k := .i64) (by kernel_rfl) (by omega) (by omega)) rfl ?_
    refine sq.c (v := .int .u8 (bt (strB l) (0))) rfl rfl rfl rfl ?_
    refine sq.e (AWp.seq (AWp.rowV (l := _) pok ?_))
    refine sq.c (v := .pointer (some ⟨b, 0, none⟩)) rfl rfl rfl rfl ?_
    refine sq.c (v := .pointer (some ⟨b, 0, none⟩)) rfl rfl rfl rfl ?_
    refine sq.c (v := .pointer (some ⟨b, 0, none⟩)) rfl rfl rfl rfl ?_
    refine sq.c (v := .pointer (some ⟨b, 0, none⟩)) rfl rfl (by kernel_rfl) rfl ?_
    refine sq.c (v := .string (strB l)) rfl rfl (ld1 (P := Tryz.prog) (t := 9) (p := 0) (v := .string (strB l)) (by kernel_rfl) (by kernel_rfl) hb rfl) rfl ?_
    refine sq.c (v := .string (strB (l.drop 1))) rfl rfl (Eq.trans (slice_str (P := Tryz.prog) (h := h1) (t := 9) (s := strB l) (l := 1) (u := ((strB l).data.toList.length : Nat)) (by kernel_rfl) (.inr ⟨_, rfl⟩) (.inl ⟨rfl, rfl⟩) (by omega) (by omega) (by omega)) (okV (congrArg Value.string subD))) rfl ?_
    refine sq.c (v := .pointer (some ⟨b, 0, none⟩)) rfl rfl rfl rfl ?_
    refine sq.c (v := .pointer (some ⟨b, 0, none⟩)) rfl rfl (by kernel_rfl) rfl ?_
    refine sq.op rfl rfl (Does.store (k := 1) (xs := [.string (strB (l.drop 1))]) (cs' := [.string (strB (l.drop 1))]) hf (by kernel_rfl) rfl rfl rfl hb rfl rfl (Nat.le_of_ble_eq_true rfl) rfl) ?_
    rintro _ h5 n6 ⟨rfl, hb4⟩ s7 hn2 hf
    refine sq.w0 ?_
    have hs := hs.at (by simp) s7
    have hn := Nat.le_trans hn hn2
    refine sq.e (AWp.seq (AWp.seq (AWp.rowV (l := _) pok ?_)))
    refine sq.c (v := .int .u8 (bt (strB l) (0))) rfl rfl rfl rfl ?_
    refine sq.c (v := .bool (decide ((bt (strB l) (0)) = (117 : Int)))) rfl rfl rfl rfl ?_
    refine sq.e ?_
    by_cases c4_1 : (bt (strB l) (0)) = (117 : Int)
    · rw [decide_eq_true c4_1]
      refine AWp.condT rfl rfl ?_
      refine AWp.seq (AWp.rowV (l := _) pok ?_)
      refine sq.c (v := .pointer (some ⟨b, 0, none⟩)) rfl rfl rfl rfl ?_
      refine sq.x rfl (CallsF.fn rfl (by kernel_rfl) rfl rfl) (f111_spec (l.drop 1) hb4 (by omega)) ?_ ?_
      · intro h9 n10 T_ s11 hn2
        have hs := hs.at (by simp) s11
        refine ⟨rfl, .inr ⟨rfl, hs, Nat.le_trans hn hn2, ?_⟩⟩
        unfold escP; rw [if_neg hne, if_pos c4_1]; exact T_
      · rintro _ h9 n10 ⟨c_, m_, hnum, rfl, hb8⟩ s11 hn2 hf
        refine sq.w ?_
        have hs := hs.at (by simp) s11
        have hn := Nat.le_trans hn hn2
        refine sq.c (v := .int .i32 ((c_ : Int))) rfl rfl rfl rfl ?_
        refine sq.e ?_
        refine AWp.ret ?_
        refine ⟨rfl, [.int .i32 ((c_ : Int))], rfl, .inl ⟨.int .i32 ((c_ : Int)), rfl, hs, hn, ?_⟩⟩
        exact ⟨_, _, by unfold escP; rw [if_neg hne, if_pos c4_1]; exact hnum, rfl, hb8⟩
    · rw [decide_eq_false c4_1]
      refine AWp.condF rfl rfl ?_
      refine AWp.skip (AWp.seq (AWp.rowV (l := _) pok ?_))
      refine sq.c (v := .int .u8 (bt (strB l) (0))) rfl rfl rfl rfl ?_
      refine sq.c (v := .bool (decide ((bt (strB l) (0)) = (34 : Int)))) rfl rfl rfl rfl ?_
      refine sq.c (v := .bool (decide ((bt (strB l) (0)) = (34 : Int)))) rfl rfl rfl rfl ?_
      by_cases c6_1 : (bt (strB l) (0)) = (34 : Int)
      · rw [decide_eq_true c6_1]
        refine sq.s (wantF (g := 2) (d := 29) rfl rfl rfl) rfl ?_
        refine sq.s (wantF (g := 2) (d := 29) rfl rfl rfl) rfl ?_
        refine sq.c (v := .bool true) rfl rfl rfl rfl ?_
        refine sq.x rfl (CallsF.fn rfl (by kernel_rfl) rfl rfl) (f69_spec true) ?_ ?_
        · intro h12 n13 T_ s14 hn2
          have hs := hs.trans (s14.mono (by simp))
          refine ⟨rfl, .inr ⟨rfl, hs, Nat.le_trans hn hn2, ?_⟩⟩
          cases T_
        · rintro _ h12 n13 ⟨rfl, _⟩ s14 hn2 hf
          refine sq.w ?_
          have hb4 := s14.sub _ _ hb4
          have hs := hs.trans (s14.mono (by simp))
          have hn := Nat.le_trans hn hn2
          refine sq.e (AWp.seq (AWp.rowV (l := _) pok ?_))
          refine sq.c (v := .int .u8 (bt (strB l) (0))) rfl rfl rfl rfl ?_
          refine sq.c (v := .int .i32 (bt (strB l) (0))) rfl rfl (Eq.trans (b := some (.int .i32 (IntKind.i32.wrap (bt (strB l) (0))))) (by kernel_rfl) (okI (wrap_i32 (by omega) (by omega)))) rfl ?_
          refine sq.c (v := .int .i32 (bt (strB l) (0))) rfl rfl rfl rfl ?_
          refine sq.e ?_
          refine AWp.ret ?_
          refine ⟨rfl, [.int .i32 (bt (strB l) (0))], rfl, .inl ⟨.int .i32 (bt (strB l) (0)), rfl, hs, hn, ?_⟩⟩
          exact ⟨(bt (strB l) 0).toNat, _, by unfold escP; rw [if_neg hne, if_neg c4_1, if_pos (.inl c6_1)], congrArg (Value.int .i32) (by omega), hb4⟩
      · rw [decide_eq_false c6_1]
        refine sq.c (v := .int .u8 (bt (strB l) (0))) (wantT (g := 2) (d := 29) rfl rfl rfl) rfl rfl rfl ?_
        refine sq.c (v := .bool (decide ((bt (strB l) (0)) = (92 : Int)))) (wantT (g := 2) (d := 29) rfl rfl rfl) rfl rfl rfl ?_
        refine sq.c (v := .bool (decide ((bt (strB l) (0)) = (92 : Int)))) rfl rfl rfl rfl ?_
        refine sq.x rfl (CallsF.fn rfl (by kernel_rfl) rfl rfl) (f69_spec (decide ((bt (strB l) (0)) = (92 : Int)))) ?_ ?_
        · intro h15 n16 T_ s17 hn2
          have hs := hs.trans (s17.mono (by simp))
          refine ⟨rfl, .inr ⟨rfl, hs, Nat.le_trans hn hn2, ?_⟩⟩
          unfold escP; rw [if_neg hne, if_neg c4_1, if_neg (fun q => q.elim c6_1 (of_decide_eq_false T_))]
        · rintro _ h15 n16 ⟨rfl, m_2⟩ s17 hn2 hf
          refine sq.w ?_
          have hb4 := s17.sub _ _ hb4
          have hs := hs.trans (s17.mono (by simp))
          have hn := Nat.le_trans hn hn2
          refine sq.e (AWp.seq (AWp.rowV (l := _) pok ?_))
          refine sq.c (v := .int .u8 (bt (strB l) (0))) rfl rfl rfl rfl ?_
          refine sq.c (v := .int .i32 (bt (strB l) (0))) rfl rfl (Eq.trans (b := some (.int .i32 (IntKind.i32.wrap (bt (strB l) (0))))) (by kernel_rfl) (okI (wrap_i32 (by omega) (by omega)))) rfl ?_
          refine sq.c (v := .int .i32 (bt (strB l) (0))) rfl rfl rfl rfl ?_
          refine sq.e ?_
          refine AWp.ret ?_
          refine ⟨rfl, [.int .i32 (bt (strB l) (0))], rfl, .inl ⟨.int .i32 (bt (strB l) (0)), rfl, hs, hn, ?_⟩⟩
          exact ⟨(bt (strB l) 0).toNat, _, by unfold escP; rw [if_neg hne, if_neg c4_1, if_pos (.inr (of_decide_eq_true m_2))], congrArg (Value.int .i32) (by omega), hb4⟩
end Go.Proofs.YtkpjfibpaojelaaGreatDoor
namespace Go.Abs
open Go
theorem decodeL_N (l : List UInt8) : Lib.decodeL l = Lib.decodeN l.length (l.getD 0 0).toNat (l.getD 1 0).toNat (l.getD 2 0).toNat (l.getD 3 0).toNat := by
  unfold Lib.decodeL
  rw [Lib.decode_N]
  simp
def goodD (d : Nat × Nat) : Bool := d != (65533, 1)
theorem decs_ok (P : List UInt8 → Prop) (h0 : P []) (hs : ∀ l c w, l ≠ [] → Lib.decodeL l = (c, w) → (c, w) ≠ (65533, 1) → decs l = (c, w) :: decs (l.drop w) → (decs (l.drop w)).all goodD = true → P (l.drop w) → P l) :
    ∀ l, (decs l).all goodD = true → P l := by
  have key : ∀ n, ∀ l : List UInt8, l.length ≤ n → (decs l).all goodD = true → P l := by
    intro n
    induction n with
    | zero => intro l hl _; have := List.eq_nil_of_length_eq_zero (Nat.le_zero.1 hl); subst this; exact h0
    | succ n ih =>
      intro l hl ha
      by_cases hne : l = []
      · rw [hne]; exact h0
      · have e := decs_step l hne
        rw [e, List.all_cons, Bool.and_eq_true] at ha
        obtain ⟨c, hd⟩ : ∃ c, Lib.decodeL l = c := ⟨_, rfl⟩
        have hw1 := Lib.decodeL_width l
        have hlp : 0 < l.length := List.length_pos_iff.2 hne
        refine hs l c.1 c.2 hne hd ?_ (by rw [e, hd]) (by rw [← hd]; exact ha.2) ?_
        · have := ha.1
          rw [hd] at this
          unfold goodD at this
          exact bne_iff_ne.1 this
        · rw [← hd]
          exact ih _ (by rw [List.length_drop]; omega) ha.2
  exact fun l => key l.length l (Nat.le_refl _)
theorem okD_good (d : Nat × Nat) (h : okD d = true) : goodD d = true := by
  unfold okD at h
  unfold goodD
  simp only [Bool.and_eq_true] at h
  exact h.1.1
theorem all_good {l : List (Nat × Nat)} (h : l.all okD = true) : l.all goodD = true := by
  rw [List.all_eq_true] at *
  exact fun x hx => okD_good x (h x hx)
theorem mayV {l : List UInt8} (h : mayValueL l = true) : (decs l).all okD = true ∧ 1 ≤ (decs l).length ∧ (decs l).length ≤ 64 := by
  unfold mayValueL at h
  simp only [Bool.and_eq_true, decide_eq_true_eq] at h
  exact ⟨h.1.1, h.1.2, h.2⟩
end Go.Abs
namespace Go.Proofs.YtkpjfibpaojelaaGreatDoor
open Go Go.Abs
set_option maxRecDepth 100000
set_option maxHeartbeats 4000000
def valF : Nat → List UInt8 → List UInt8 → Option (List UInt8 × List UInt8)
  | 0, _, _ => none
  | f + 1, l, out => if l = [] ∨ Lib.decodeL l = (65533, 1) then none
    else if (Lib.decodeL l).1 = 34 then some (out, l.drop (Lib.decodeL l).2)
    else if (Lib.decodeL l).1 = 92 then (match escP (l.drop (Lib.decodeL l).2) with
      | none => none
      | some (c, r) => valF f r (out ++ encR c))
    else valF f (l.drop (Lib.decodeL l).2) (out ++ encR ((Lib.decodeL l).1 : Nat))
def valP (l : List UInt8) : Option (List UInt8 × List UInt8) := valF (l.length + 1) l []
theorem cutT_le (l : List UInt8) (c : UInt8) : (cutT l c).length ≤ l.length - 1 := by
  unfold cutT
  rw [List.length_tail]
  have := (List.dropWhile_suffix (· != c) (l := l)).length_le
  omega
theorem num_len {l m : List UInt8} {c : Nat} (h : numP l = some (c, m)) : m.length + 2 ≤ l.length ∧ isR c := by
  unfold numP at h
  split at h
  · rename_i q
    cases h
    have h1 := cutT_le (l.drop 1) 125
    have h2 := q.2.2.1
    rw [List.length_drop] at h1
    have h3 : 0 < (cutA (l.drop 1) 125).length := List.length_pos_iff.2 h2
    have h4 : (cutA (l.drop 1) 125).length ≤ (l.drop 1).length := (List.takeWhile_sublist _).length_le
    rw [List.length_drop] at h4
    refine ⟨by omega, ?_⟩
    have h5 := q.2.2.2.2.2
    unfold validN Lib.validRune at h5
    rw [decide_eq_true_eq] at h5
    unfold isR
    omega
  · cases h
theorem esc_len {l m : List UInt8} {c : Nat} (h : escP l = some (c, m)) : m.length < l.length ∧ isR c := by
  unfold escP at h
  split at h
  · cases h
  · rename_i hne
    have hp : 0 < l.length := List.length_pos_iff.2 hne
    split at h
    · have := num_len h
      rw [List.length_drop] at this
      exact ⟨by omega, this.2⟩
    · split at h
      · rename_i q
        cases h
        rw [List.length_drop]
        refine ⟨by omega, ?_⟩
        unfold isR
        omega
      · cases h
theorem dec_isR (l : List UInt8) : isR ((Lib.decodeL l).1 : Nat) := by
  rw [decodeL_N]
  generalize l.length = n
  have h0 := (l.getD 0 0).toNat_lt
  have h1 := (l.getD 1 0).toNat_lt
  have h2 := (l.getD 2 0).toNat_lt
  have h3 := (l.getD 3 0).toNat_lt
  generalize (l.getD 0 0).toNat = b0 at *
  generalize (l.getD 1 0).toNat = b1 at *
  generalize (l.getD 2 0).toNat = b2 at *
  generalize (l.getD 3 0).toNat = b3 at *
  unfold isR Lib.decodeN
  repeat' split
  all_goals (simp only; omega)
def dC (l : List UInt8) : Int := ((Go.Lib.decodeGo (strB l)).1 : Nat)
def dN (l : List UInt8) : Int := ((Go.Lib.decodeGo (strB l)).2 : Nat)
theorem f101_at {h : Heap} {n : Nat} (l : List UInt8) (hl : Laid0 h) : Tells Tryz.prog 101 [.string (strB l)] h n (.tuple #[.int .i32 (dC l), .int .i64 (dN l)]) := f101_spec (strB l) hl
theorem go_nil : dC [] = 65533 ∧ dN [] = 0 := ⟨rfl, rfl⟩
theorem go_ne {l : List UInt8} (h : l ≠ []) : dC l = ((Lib.decodeL l).1 : Nat) ∧ dN l = ((Lib.decodeL l).2 : Nat) := by
  have e : Go.Lib.decodeGo (strB l) = Lib.decodeL l := by
    unfold Go.Lib.decodeGo Lib.decodeL
    rw [if_neg]
    intro e
    apply h
    have : (strB l).size = l.length := by simp [ByteArray.size]
    exact List.eq_nil_of_length_eq_zero (by omega)
  unfold dC dN
  rw [e]
  exact ⟨rfl, rfl⟩
theorem go_ok {l : List UInt8} (h : 0 < dN l ∧ (dC l ≠ 65533 ∨ 1 < dN l)) : l ≠ [] ∧ Lib.decodeL l ≠ (65533, 1) := by
  have hne : l ≠ [] := by
    intro e
    subst e
    have := go_nil.2
    omega
  refine ⟨hne, fun e => ?_⟩
  obtain ⟨e1, e2⟩ := go_ne hne
  rw [e] at e1 e2
  have e1' : dC l = 65533 := e1
  have e2' : dN l = 1 := e2
  omega
theorem go_bad {l : List UInt8} (h : ¬ (0 < dN l ∧ (dC l ≠ 65533 ∨ 1 < dN l))) : l = [] ∨ Lib.decodeL l = (65533, 1) := by
  by_cases hne : l = []
  · exact .inl hne
  · obtain ⟨e1, e2⟩ := go_ne hne
    have hw := Lib.decodeL_width l
    refine .inr (Prod.ext ?_ ?_)
    · show (Lib.decodeL l).1 = 65533
      omega
    · show (Lib.decodeL l).2 = 1
      omega
theorem val_no {f : Nat} {l out : List UInt8} (h : l = [] ∨ Lib.decodeL l = (65533, 1)) : valF (f + 1) l out = none := by unfold valF; rw [if_pos h]
theorem val_end {f : Nat} {l out : List UInt8} (h : l ≠ [] ∧ Lib.decodeL l ≠ (65533, 1)) (hc : dC l = 34) : valF (f + 1) l out = some (out, l.drop (dN l).toNat) := by
  obtain ⟨e1, e2⟩ := go_ne h.1
  unfold valF
  rw [if_neg (fun q => q.elim h.1 h.2), if_pos (by omega), e2, Int.toNat_natCast]
theorem val_esc {f : Nat} {l out : List UInt8} (h : l ≠ [] ∧ Lib.decodeL l ≠ (65533, 1)) (hc : dC l = 92) : valF (f + 1) l out = match escP (l.drop (dN l).toNat) with
      | none => none
      | some (c, r) => valF f r (out ++ encR c) := by
  obtain ⟨e1, e2⟩ := go_ne h.1
  rw [valF, if_neg (fun q => q.elim h.1 h.2), if_neg (by omega), if_pos (by omega), e2, Int.toNat_natCast]
theorem val_go {f : Nat} {l out : List UInt8} (h : l ≠ [] ∧ Lib.decodeL l ≠ (65533, 1)) (hc : ¬ dC l = 34) (hc2 : ¬ dC l = 92) : valF (f + 1) l out = valF f (l.drop (dN l).toNat) (out ++ encR (dC l)) := by
  obtain ⟨e1, e2⟩ := go_ne h.1
  rw [valF, if_neg (fun q => q.elim h.1 h.2), if_neg (by omega), if_neg (by omega), e1, e2, Int.toNat_natCast]
theorem dN_rng {l : List UInt8} (h : l ≠ []) : 1 ≤ dN l ∧ dN l ≤ (l.length : Nat) := by
  obtain ⟨e1, e2⟩ := go_ne h
  have h1 := Lib.decodeL_width l
  have h2 := decodeL_le l h
  omega
theorem dC_isR (l : List UInt8) : isR (dC l) := by
  by_cases h : l = []
  · subst h; unfold isR; have := go_nil.1; omega
  · rw [(go_ne h).1]; exact dec_isR l
theorem SubBut.own2 {h h1 h2 : Heap} {S : List Nat} {n b : Nat} {v : Value} (a : SubBut h h1 S) (hz : h.get b = none) (hB : ∀ c ∈ blkOf v, c ∈ S ∨ n ≤ c) (hf : Free h n) (s : SubBut h1 h2 (b :: blkOf v)) : SubBut h h2 S := fun x o hx e => by
  refine s x o ?_ (a x o hx e)
  intro hm
  rcases List.mem_cons.1 hm with rfl | hm
  · rw [hz] at e; cases e
  · rcases hB x hm with q | q
    · exact hx q
    · rw [hf x q] at e; cases e
theorem f64_spec {h : Heap} {n b cp : Nat} {a : Option Addr} {pa : Value} (bs : List UInt8) (hb : h.get b = some (.cells [pa, .slice a bs.length cp] true BCI)) (R : OwnRow encByte 5 (Trie.nil : Heap) h (.slice a bs.length cp) bs) (hz : bs = [] → a = none) (hd : ∀ c ∈ blkOf (.slice a bs.length cp), c ≠ b) (hl : bs.length < 100000000000) :
    Makes Tryz.prog 64 [.pointer (some ⟨b, 0, none⟩)] h n (blkOf (.slice a bs.length cp)) fun u _ _ => u = .string (strB bs) := by
  rcases R with ⟨rfl, hv | ⟨r, o, hv⟩⟩ | ⟨r, cap, ci, hv, h2, h3, h4, h5, h6⟩
  · cases hv
    exact f64_nil hb
  · cases hv
    cases hz rfl
  · cases hv
    have hne : bs ≠ [] := List.ne_nil_of_length_pos h5.1
    have e : blkOf (.slice (some ⟨r, 0, none⟩) bs.length cp) = [r] := by simp [blkOf, hne]
    rw [e] at hd ⊢
    exact f64_own bs hb h2 h4 h5.1 hl (h6.elim (fun q => .inl q.1) .inr) (fun q => hd r (List.mem_singleton.2 rfl) q.symm)
theorem Laid0.keep2 {h h2 : Heap} {b : Nat} {cs : List Value} {ci : CI} (l : Laid0 h) (s : SubBut h h2 [b]) (hb : h.get b = some (.cells cs true ci)) : Laid0 h2 := by
  obtain ⟨c, q⟩ := l
  refine ⟨c, fun x o e => s x o (fun hm => ?_) (q x o e)⟩
  rw [List.mem_singleton] at hm
  subst hm
  obtain ⟨_, cs', ci', e2⟩ := laidHeap_ro c laidL_lt x o e
  have := q x o e
  rw [hb, e2.1] at this
  cases this
theorem app_ne (zs : List UInt8) (x : Int) : ¬ zs ++ encR x = [] := fun e => by
  have h1 := congrArg List.length e
  have h2 := (enc_len x).1
  rw [List.length_append] at h1
  simp only [List.length_nil] at h1
  omega
theorem f87_spec {h : Heap} {n : Nat} {b : Nat} {ci : CI} (l : List UInt8) (hb : h.get b = some (.cells [.string (strB l)] true ci)) (hl : l.length < 1000000000) (hld : Laid0 h) :
    Throws Tryz.prog 87 [.pointer (some ⟨b, 0, none⟩)] h n ([b]) (fun v h2 _ => ∃ (o m : List UInt8), valP l = some (o, m) ∧ v = .string (strB o) ∧ o.length + 4 * m.length ≤ 4 * l.length ∧ h2.get b = some (.cells [.string (strB m)] true ci)) (WRONG) (valP l = none) := by
  refine Throws.free fun hf => ?_
  have hb0 := hb
  have hs : SubBut h h ([b]) := .refl _ _
  have hn : n ≤ n := Nat.le_refl _
  have hf0 := hf
  refine Throws.of_bodyV (args := [.pointer (some ⟨b, 0, none⟩)]) (vs := [.pointer (some ⟨b, 0, none⟩), undef, undef, undef, undef, undef, undef, undef, undef, undef, undef, undef, undef, undef, undef, undef, undef, undef, undef, undef, undef, undef, undef, undef, undef, undef, undef, undef, undef, undef, undef, undef, undef, undef, undef, undef, undef, undef, undef, undef, undef, undef, undef, undef]) Tryz.func87 rfl rfl ?_
  refine AWp.seq (AWp.rowV (l := _) pok ?_)
  refine sq.c (v := .string (⟨#[]⟩)) rfl rfl rfl rfl ?_
  refine sq.e (AWp.seq (AWp.rowV (l := _) pok ?_))
  have e_b_n : b ≠ n := hf.ne hb
  have z_n : h.get n = none := hf0 _ hn
  refine sq.op rfl rfl (Does.alloc (cs := [.pointer none, .slice none (0) (0)]) hf (z := .agg #[.pointer none, .slice none (0) (0)]) (by kernel_rfl) rfl) ?_
  rintro _ h2 n3 ⟨rfl, hb1⟩ s4 hn2 hf
  refine sq.w ?_
  have hb := s4.sub _ _ hb
  have hs := hs.trans (s4.mono (by simp))
  have hn := Nat.le_trans hn hn2
  refine sq.e (AWp.block ?_)
  refine AWp.loopV (fun d vs h6 n7 => ∃ (m zs : List UInt8) (f : Nat) (pa : Value) (a_r : Option Addr) (cp_r : Nat), d = f + 1 ∧ SubBut h h6 ([b]) ∧ n ≤ n7 ∧ Free h6 n7 ∧ h6.get b = some (.cells [.string (strB m)] true ci) ∧ h6.get n = some (.cells [pa, .slice a_r (zs.length) cp_r] true ⟨72, 0, true⟩) ∧ OwnRow encByte 5 (Trie.nil : Heap) h6 (.slice a_r (zs).length cp_r) (zs) ∧ (∀ c ∈ blkOf (.slice a_r (zs).length cp_r), c ≠ b) ∧ (∀ c ∈ blkOf (.slice a_r (zs).length cp_r), c ≠ n) ∧ (∀ c ∈ blkOf (.slice a_r (zs).length cp_r), c ∈ [b] ∨ n ≤ c) ∧ (PA pa n) ∧ (zs = [] → a_r = none) ∧ (m.length < f) ∧ (zs.length + 4 * m.length ≤ 4 * l.length) ∧ (valP l = valF f m zs) ∧ ∃ y5 : Nat → Value, vs = [.pointer (some ⟨b, 0, none⟩), undef, (y5 2), .pointer (some ⟨n, 0, none⟩), (y5 4), (y5 5), (y5 6), (y5 7), (y5 8), (y5 9), (y5 10), (y5 11), (y5 12), (y5 13), (y5 14), (y5 15), (y5 16), (y5 17), (y5 18), (y5 19), (y5 20), (y5 21), (y5 22), (y5 23), (y5 24), (y5 25), (y5 26), (y5 27), (y5 28), (y5 29), (y5 30), (y5 31), (y5 32), (y5 33), (y5 34), (y5 35), (y5 36), (y5 37), (y5 38), (y5 39), (y5 40), (y5 41), (y5 42), (y5 43)]) (l.length + 1 + 1) ⟨l, [], l.length + 1, .pointer none, none, 0, rfl, hs, hn, hf, hb, hb1, OwnRow.nil, (by simp [blkOf]), (by simp [blkOf]), (by simp [blkOf]), (.inl rfl), (fun _ => rfl), (by omega), (by simp), (rfl), getV [undef, undef, .string (⟨#[]⟩), undef, undef, undef, undef, undef, undef, undef, undef, undef, undef, undef, undef, undef, undef, undef, undef, undef, undef, undef, undef, undef, undef, undef, undef, undef, undef, undef, undef, undef, undef, undef, undef, undef, undef, undef, undef, undef, undef, undef, undef, undef], rfl⟩ ?_
  rintro d vs h6 n7 ⟨m, zs, f, pa, a_r, cp_r, rfl, hs, hn, hf, hb, hb1, R_r, d_r_b, d_r_n, B_r, hpa, hz, hlen, hzl, hq, y5, rfl⟩
  obtain ⟨g, rfl⟩ : ∃ g, f = g + 1 := ⟨f - 1, by omega⟩
  refine AWp.block (AWp.seq (AWp.rowV (l := _) pok ?_))
  refine sq.c (v := .pointer (some ⟨b, 0, none⟩)) rfl rfl rfl rfl ?_
  refine sq.c (v := .pointer (some ⟨b, 0, none⟩)) rfl rfl rfl rfl ?_
  refine sq.c (v := .pointer (some ⟨b, 0, none⟩)) rfl rfl (by kernel_rfl) rfl ?_
  refine sq.c (v := .string (strB m)) rfl rfl (ld1 (P := Tryz.prog) (t := 9) (p := 0) (v := .string (strB m)) (by kernel_rfl) (by kernel_rfl) hb rfl) rfl ?_
  refine sq.t (v := .tuple #[.int .i32 (dC m), .int .i64 (dN m)]) rfl (CallsF.fn rfl (by kernel_rfl) rfl rfl) (fun hf => f101_at m (hld.keep2 hs hb0)) hf rfl ?_
  intro n8 hn2 hf
  have hn := Nat.le_trans hn hn2
  refine sq.c (v := .tuple #[.int .i32 (dC m), .int .i64 (dN m)]) rfl rfl rfl rfl ?_
  refine sq.c (v := .int .i32 (dC m)) rfl rfl rfl rfl ?_
  refine sq.c (v := .int .i64 (dN m)) rfl rfl rfl rfl ?_
  refine sq.c (v := .int .i32 (dC m)) rfl rfl rfl rfl ?_
  refine sq.c (v := .int .i64 (dN m)) rfl rfl rfl rfl ?_
  refine sq.e (AWp.seq (AWp.rowV (l := _) pok ?_))
  refine sq.c (v := .int .i64 (dN m)) rfl rfl rfl rfl ?_
  refine sq.c (v := .bool (decide ((0 : Int) < (dN m)))) rfl rfl rfl rfl ?_
  refine sq.c (v := .bool (decide ((0 : Int) < (dN m)))) rfl rfl rfl rfl ?_
  by_cases c3_1 : (0 : Int) < (dN m)
  · rw [decide_eq_true c3_1]
    refine sq.c (v := .int .i32 (dC m)) (wantT (g := 2) (d := 16) rfl rfl rfl) rfl rfl rfl ?_
    refine sq.c (v := .bool (!decide ((dC m) = (65533 : Int)))) (wantT (g := 2) (d := 16) rfl rfl rfl) rfl rfl rfl ?_
    refine sq.c (v := .bool (!decide ((dC m) = (65533 : Int)))) (wantT (g := 2) (d := 16) rfl rfl rfl) rfl rfl rfl ?_
    by_cases c3_4 : (dC m) = (65533 : Int)
    · rw [decide_eq_true c3_4]
      refine sq.c (v := .int .i64 (dN m)) (wantT (g := 5) (d := 19) rfl rfl rfl) rfl rfl rfl ?_
      refine sq.c (v := .bool (decide ((1 : Int) < (dN m)))) (wantT (g := 5) (d := 19) rfl rfl rfl) rfl rfl rfl ?_
      refine sq.c (v := .bool (decide ((1 : Int) < (dN m)))) (wantT (g := 2) (d := 16) rfl rfl rfl) rfl rfl rfl ?_
      refine sq.c (v := .bool (decide ((1 : Int) < (dN m)))) rfl rfl rfl rfl ?_
      refine sq.x rfl (CallsF.fn rfl (by kernel_rfl) rfl rfl) (f69_spec (decide ((1 : Int) < (dN m)))) ?_ ?_
      · intro h9 n10 T_ s11 hn2
        have hs := hs.trans (s11.mono (by simp))
        refine ⟨rfl, .inr ⟨rfl, hs, Nat.le_trans hn hn2, ?_⟩⟩
        have T2 := of_decide_eq_false T_
        rw [hq]
        exact val_no (go_bad (fun q => by omega))
      · rintro _ h9 n10 ⟨rfl, m_1⟩ s11 hn2 hf
        refine sq.w ?_
        have hb := s11.sub _ _ hb
        have hb1 := s11.sub _ _ hb1
        have R_r := R_r.keep s11
        have hs := hs.trans (s11.mono (by simp))
        have hn := Nat.le_trans hn hn2
        have hok := go_ok (l := m) ⟨c3_1, .inr (of_decide_eq_true m_1)⟩
        have hrg := dN_rng hok.1
        have hlm : (strB m).data.toList.length = m.length := rfl
        have hdl : (m.drop (dN m).toNat).length = m.length - (dN m).toNat := List.length_drop
        refine sq.e (AWp.seq (AWp.rowV (l := _) pok ?_))
        refine sq.c (v := .pointer (some ⟨b, 0, none⟩)) rfl rfl rfl rfl ?_
        refine sq.c (v := .pointer (some ⟨b, 0, none⟩)) rfl rfl rfl rfl ?_
        refine sq.c (v := .pointer (some ⟨b, 0, none⟩)) rfl rfl rfl rfl ?_
        refine sq.c (v := .pointer (some ⟨b, 0, none⟩)) rfl rfl (by kernel_rfl) rfl ?_
        refine sq.c (v := .string (strB m)) rfl rfl (ld1 (P := Tryz.prog) (t := 9) (p := 0) (v := .string (strB m)) (by kernel_rfl) (by kernel_rfl) hb rfl) rfl ?_
        refine sq.c (v := .int .i64 (dN m)) rfl rfl rfl rfl ?_
        refine sq.c (v := .string (strB (m.drop (dN m).toNat))) rfl rfl (Eq.trans (slice_str (P := Tryz.prog) (h := h9) (t := 9) (s := strB m) (l := dN m) (u := ((strB m).data.toList.length : Nat)) (by kernel_rfl) (.inr ⟨_, rfl⟩) (.inl ⟨rfl, rfl⟩) (by omega) (by omega) (by omega)) (okV (congrArg Value.string subD))) rfl ?_
        refine sq.c (v := .pointer (some ⟨b, 0, none⟩)) rfl rfl rfl rfl ?_
        refine sq.c (v := .pointer (some ⟨b, 0, none⟩)) rfl rfl (by kernel_rfl) rfl ?_
        refine sq.op rfl rfl (Does.store (k := 1) (xs := [.string (strB (m.drop (dN m).toNat))]) (cs' := [.string (strB (m.drop (dN m).toNat))]) hf (by kernel_rfl) rfl rfl rfl hb rfl rfl (Nat.le_of_ble_eq_true rfl) rfl) ?_
        rintro _ h13 n14 ⟨rfl, hb12⟩ s15 hn2 hf
        refine sq.w0 ?_
        have hb1 := s15.get1 (Ne.symm e_b_n) hb1
        have R_r := R_r.but s15 (fun c hc hm => d_r_b c hc (List.mem_singleton.1 hm))
        have hs := hs.at (by simp) s15
        have hn := Nat.le_trans hn hn2
        refine sq.e (AWp.seq (AWp.seq (AWp.rowV (l := _) pok ?_)))
        refine sq.c (v := .int .i32 (dC m)) rfl rfl rfl rfl ?_
        refine sq.e (AWp.block (AWp.seq (AWp.rowV (l := _) pok ?_)))
        refine sq.c (v := .bool (decide ((dC m) = (34 : Int)))) rfl rfl rfl rfl ?_
        refine sq.c (v := .bool (decide ((dC m) = (34 : Int)))) rfl rfl rfl rfl ?_
        refine sq.e ?_
        by_cases c6_0 : (dC m) = (34 : Int)
        · rw [decide_eq_true c6_0]
          refine AWp.condT rfl rfl ?_
          refine AWp.seq (AWp.rowV (l := _) pok ?_)
          refine sq.k rfl (CallsF.fn rfl (by kernel_rfl) rfl rfl) (f64_spec zs hb1 R_r hz d_r_n (by omega)) ?_
          rintro _ h16 n17 rfl s18 hn2 hf
          refine sq.w ?_
          have hb12 := s18 _ _ (fun hm => d_r_b _ hm rfl) hb12
          have hb1 := s18 _ _ (fun hm => d_r_n _ hm rfl) hb1
          have hs := hs.own B_r hf0 s18
          have hn := Nat.le_trans hn hn2
          refine sq.c (v := .string (strB (zs))) rfl rfl rfl rfl ?_
          refine sq.e ?_
          refine AWp.ret ?_
          refine ⟨rfl, [.string (strB (zs))], rfl, .inl ⟨.string (strB (zs)), rfl, hs, hn, ?_⟩⟩
          exact ⟨_, _, by rw [hq]; exact val_end hok c6_0, rfl, by omega, hb12⟩
        · rw [decide_eq_false c6_0]
          refine AWp.condF rfl rfl ?_
          refine AWp.seq (AWp.rowV (l := _) pok ?_)
          refine sq.c (v := .bool (decide ((dC m) = (92 : Int)))) rfl rfl rfl rfl ?_
          refine sq.c (v := .bool (decide ((dC m) = (92 : Int)))) rfl rfl rfl rfl ?_
          refine sq.e ?_
          by_cases c8_0 : (dC m) = (92 : Int)
          · rw [decide_eq_true c8_0]
            refine AWp.condT rfl rfl ?_
            refine AWp.rowV (l := _) pok ?_
            refine sq.c (v := .pointer (some ⟨b, 0, none⟩)) rfl rfl rfl rfl ?_
            refine sq.x rfl (CallsF.fn rfl (by kernel_rfl) rfl rfl) (f102_spec (m.drop (dN m).toNat) hb12 (by omega)) ?_ ?_
            · intro h20 n21 T_ s22 hn2
              have hs := hs.at (by simp) s22
              refine ⟨rfl, .inr ⟨rfl, hs, Nat.le_trans hn hn2, ?_⟩⟩
              rw [hq, val_esc hok c8_0, T_]
            · rintro _ h20 n21 ⟨c_, r_, hesc, rfl, hb19⟩ s22 hn2 hf
              refine sq.w ?_
              have hb1 := s22.get1 (Ne.symm e_b_n) hb1
              have R_r := R_r.but s22 (fun c hc hm => d_r_b c hc (List.mem_singleton.1 hm))
              have hs := hs.at (by simp) s22
              have hn := Nat.le_trans hn hn2
              refine sq.c (v := .int .i32 ((c_ : Int))) rfl rfl rfl rfl ?_
              refine sq.e (AWp.rowV (l := _) pok ?_)
              refine sq.c (v := .int .i32 ((c_ : Int))) rfl rfl rfl rfl ?_
              have hfo := hf
              refine sq.k rfl (CallsF.fn rfl (by kernel_rfl) rfl rfl) (f61_spec zs hpa hb1 R_r d_r_n (by omega) (c_ : Int) (esc_len hesc).2) ?_
              rintro u26 h27 n28 ⟨a23, cp24, hb25, R_r, hB_, d_r_n⟩ s29 hn2 hf
              refine sq.w ?_
              have dn_b : ∀ c ∈ blkOf (.slice a23 (zs ++ (encR (c_ : Int))).length cp24), c ≠ b := fun c hc => (hB_ c hc).elim (fun q => d_r_b c q) (fun q e => by rw [e] at q; have := hfo _ q; rw [hb19] at this; cases this)
              have hb19 := s29 _ _ (fun hm => (List.mem_cons.1 hm).elim (e_b_n) (fun q => d_r_b _ q rfl)) hb19
              have hs := SubBut.own2 (v := .slice a_r (zs).length cp_r) hs z_n B_r hf0 s29
              have B_r : ∀ c ∈ blkOf (.slice a23 (zs ++ (encR (c_ : Int))).length cp24), c ∈ [b] ∨ n ≤ c := fun c hc => (hB_ c hc).elim (B_r c) (fun q => .inr (Nat.le_trans hn q))
              have hn := Nat.le_trans hn hn2
              have d_r_b := dn_b
              refine sq.e ?_
              have hen := enc_len (c_ : Int)
              have hes := esc_len hesc
              refine ⟨_, _, rfl, by omega, r_, zs ++ encR (c_ : Int), g, .pointer (some ⟨n, 0, none⟩), a23, cp24, rfl, hs, hn, hf, hb19, hb25, R_r, d_r_b, d_r_n, B_r, (.inr rfl), (fun e => absurd e (app_ne _ _)), (by omega), (by rw [List.length_append]; omega), (by rw [hq, val_esc hok c8_0, hesc]), getV [undef, undef, (y5 2), undef, .int .i32 ((c_ : Int)), .int .i64 (dN m), .tuple #[.int .i32 (dC m), .int .i64 (dN m)], .pointer (some ⟨b, 0, none⟩), .pointer (some ⟨b, 0, none⟩), .pointer (some ⟨b, 0, none⟩), .string (strB m), .tuple #[.int .i32 (dC m), .int .i64 (dN m)], .int .i32 (dC m), .int .i64 (dN m), .int .i64 (dN m), .bool true, .bool true, .int .i32 (dC m), .bool false, .bool false, .int .i64 (dN m), .bool (decide ((1 : Int) < (dN m))), .bool (decide ((1 : Int) < (dN m))), .bool (decide ((1 : Int) < (dN m))), undef, .pointer (some ⟨b, 0, none⟩), .pointer (some ⟨b, 0, none⟩), .pointer (some ⟨b, 0, none⟩), .pointer (some ⟨b, 0, none⟩), .string (strB m), .int .i64 (dN m), .string (strB (m.drop (dN m).toNat)), .pointer (some ⟨b, 0, none⟩), .pointer (some ⟨b, 0, none⟩), .int .i32 (dC m), .bool false, .bool false, (y5 37), .bool true, .bool true, .pointer (some ⟨b, 0, none⟩), .int .i32 ((c_ : Int)), .int .i32 ((c_ : Int)), u26], rfl⟩
          · rw [decide_eq_false c8_0]
            refine AWp.condF rfl rfl ?_
            refine AWp.skip (AWp.rowV (l := _) pok ?_)
            refine sq.c (v := .int .i32 (dC m)) rfl rfl rfl rfl ?_
            have hfo := hf
            refine sq.k rfl (CallsF.fn rfl (by kernel_rfl) rfl rfl) (f61_spec zs hpa hb1 R_r d_r_n (by omega) (dC m) (dC_isR m)) ?_
            rintro u33 h34 n35 ⟨a30, cp31, hb32, R_r, hB_, d_r_n⟩ s36 hn2 hf
            refine sq.w ?_
            have dn_b : ∀ c ∈ blkOf (.slice a30 (zs ++ (encR (dC m))).length cp31), c ≠ b := fun c hc => (hB_ c hc).elim (fun q => d_r_b c q) (fun q e => by rw [e] at q; have := hfo _ q; rw [hb12] at this; cases this)
            have hb12 := s36 _ _ (fun hm => (List.mem_cons.1 hm).elim (e_b_n) (fun q => d_r_b _ q rfl)) hb12
            have hs := SubBut.own2 (v := .slice a_r (zs).length cp_r) hs z_n B_r hf0 s36
            have B_r : ∀ c ∈ blkOf (.slice a30 (zs ++ (encR (dC m))).length cp31), c ∈ [b] ∨ n ≤ c := fun c hc => (hB_ c hc).elim (B_r c) (fun q => .inr (Nat.le_trans hn q))
            have hn := Nat.le_trans hn hn2
            have d_r_b := dn_b
            refine sq.e ?_
            have hen := enc_len (dC m)
            skip
            refine ⟨_, _, rfl, by omega, m.drop (dN m).toNat, zs ++ encR (dC m), g, .pointer (some ⟨n, 0, none⟩), a30, cp31, rfl, hs, hn, hf, hb12, hb32, R_r, d_r_b, d_r_n, B_r, (.inr rfl), (fun e => absurd e (app_ne _ _)), (by omega), (by rw [List.length_append]; omega), (by rw [hq, val_go hok c6_0 c8_0]), getV [undef, undef, (y5 2), undef, .int .i32 (dC m), .int .i64 (dN m), .tuple #[.int .i32 (dC m), .int .i64 (dN m)], .pointer (some ⟨b, 0, none⟩), .pointer (some ⟨b, 0, none⟩), .pointer (some ⟨b, 0, none⟩), .string (strB m), .tuple #[.int .i32 (dC m), .int .i64 (dN m)], .int .i32 (dC m), .int .i64 (dN m), .int .i64 (dN m), .bool true, .bool true, .int .i32 (dC m), .bool false, .bool false, .int .i64 (dN m), .bool (decide ((1 : Int) < (dN m))), .bool (decide ((1 : Int) < (dN m))), .bool (decide ((1 : Int) < (dN m))), undef, .pointer (some ⟨b, 0, none⟩), .pointer (some ⟨b, 0, none⟩), .pointer (some ⟨b, 0, none⟩), .pointer (some ⟨b, 0, none⟩), .string (strB m), .int .i64 (dN m), .string (strB (m.drop (dN m).toNat)), .pointer (some ⟨b, 0, none⟩), .pointer (some ⟨b, 0, none⟩), .int .i32 (dC m), .bool false, .bool false, (y5 37), .bool false, .bool false, (y5 40), (y5 41), .int .i32 (dC m), u33], rfl⟩
    · rw [decide_eq_false c3_4]
      refine sq.s (wantF (g := 5) (d := 19) rfl rfl rfl) rfl ?_
      refine sq.s (wantF (g := 5) (d := 19) rfl rfl rfl) rfl ?_
      refine sq.c (v := .bool true) (wantT (g := 2) (d := 16) rfl rfl rfl) rfl rfl rfl ?_
      refine sq.c (v := .bool true) rfl rfl rfl rfl ?_
      refine sq.x rfl (CallsF.fn rfl (by kernel_rfl) rfl rfl) (f69_spec true) ?_ ?_
      · intro h37 n38 T_ s39 hn2
        have hs := hs.trans (s39.mono (by simp))
        refine ⟨rfl, .inr ⟨rfl, hs, Nat.le_trans hn hn2, ?_⟩⟩
        cases T_
      · rintro _ h37 n38 ⟨rfl, _⟩ s39 hn2 hf
        refine sq.w ?_
        have hb := s39.sub _ _ hb
        have hb1 := s39.sub _ _ hb1
        have R_r := R_r.keep s39
        have hs := hs.trans (s39.mono (by simp))
        have hn := Nat.le_trans hn hn2
        have hok := go_ok (l := m) ⟨c3_1, .inl c3_4⟩
        have hrg := dN_rng hok.1
        have hlm : (strB m).data.toList.length = m.length := rfl
        have hdl : (m.drop (dN m).toNat).length = m.length - (dN m).toNat := List.length_drop
        refine sq.e (AWp.seq (AWp.rowV (l := _) pok ?_))
        refine sq.c (v := .pointer (some ⟨b, 0, none⟩)) rfl rfl rfl rfl ?_
        refine sq.c (v := .pointer (some ⟨b, 0, none⟩)) rfl rfl rfl rfl ?_
        refine sq.c (v := .pointer (some ⟨b, 0, none⟩)) rfl rfl rfl rfl ?_
        refine sq.c (v := .pointer (some ⟨b, 0, none⟩)) rfl rfl (by kernel_rfl) rfl ?_
        refine sq.c (v := .string (strB m)) rfl rfl (ld1 (P := Tryz.prog) (t := 9) (p := 0) (v := .string (strB m)) (by kernel_rfl) (by kernel_rfl) hb rfl) rfl ?_
        refine sq.c (v := .int .i64 (dN m)) rfl rfl rfl rfl ?_
        refine sq.c (v := .string (strB (m.drop (dN m).toNat))) rfl rfl (Eq.trans (slice_str (P := Tryz.prog) (h := h37) (t := 9) (s := strB m) (l := dN m) (u := ((strB m).data.toList.length : Nat)) (by kernel_rfl) (.inr ⟨_, rfl⟩) (.inl ⟨rfl, rfl⟩) (by omega) (by omega) (by omega)) (okV (congrArg Value.string subD))) rfl ?_
        refine sq.c (v := .pointer (some ⟨b, 0, none⟩)) rfl rfl rfl rfl ?_
        refine sq.c (v := .pointer (some ⟨b, 0, none⟩)) rfl rfl (by kernel_rfl) rfl ?_
        refine sq.op rfl rfl (Does.store (k := 1) (xs := [.string (strB (m.drop (dN m).toNat))]) (cs' := [.string (strB (m.drop (dN m).toNat))]) hf (by kernel_rfl) rfl rfl rfl hb rfl rfl (Nat.le_of_ble_eq_true rfl) rfl) ?_
        rintro _ h41 n42 ⟨rfl, hb40⟩ s43 hn2 hf
        refine sq.w0 ?_
        have hb1 := s43.get1 (Ne.symm e_b_n) hb1
        have R_r := R_r.but s43 (fun c hc hm => d_r_b c hc (List.mem_singleton.1 hm))
        have hs := hs.at (by simp) s43
        have hn := Nat.le_trans hn hn2
        refine sq.e (AWp.seq (AWp.seq (AWp.rowV (l := _) pok ?_)))
        refine sq.c (v := .int .i32 (dC m)) rfl rfl rfl rfl ?_
        refine sq.e (AWp.block (AWp.seq (AWp.rowV (l := _) pok ?_)))
        refine sq.c (v := .bool (decide ((dC m) = (34 : Int)))) rfl rfl rfl rfl ?_
        refine sq.c (v := .bool (decide ((dC m) = (34 : Int)))) rfl rfl rfl rfl ?_
        refine sq.e ?_
        by_cases c6_0 : (dC m) = (34 : Int)
        · rw [decide_eq_true c6_0]
          refine AWp.condT rfl rfl ?_
          refine AWp.seq (AWp.rowV (l := _) pok ?_)
          refine sq.k rfl (CallsF.fn rfl (by kernel_rfl) rfl rfl) (f64_spec zs hb1 R_r hz d_r_n (by omega)) ?_
          rintro _ h44 n45 rfl s46 hn2 hf
          refine sq.w ?_
          have hb40 := s46 _ _ (fun hm => d_r_b _ hm rfl) hb40
          have hb1 := s46 _ _ (fun hm => d_r_n _ hm rfl) hb1
          have hs := hs.own B_r hf0 s46
          have hn := Nat.le_trans hn hn2
          refine sq.c (v := .string (strB (zs))) rfl rfl rfl rfl ?_
          refine sq.e ?_
          refine AWp.ret ?_
          refine ⟨rfl, [.string (strB (zs))], rfl, .inl ⟨.string (strB (zs)), rfl, hs, hn, ?_⟩⟩
          exact ⟨_, _, by rw [hq]; exact val_end hok c6_0, rfl, by omega, hb40⟩
        · rw [decide_eq_false c6_0]
          refine AWp.condF rfl rfl ?_
          refine AWp.seq (AWp.rowV (l := _) pok ?_)
          refine sq.c (v := .bool (decide ((dC m) = (92 : Int)))) rfl rfl rfl rfl ?_
          refine sq.c (v := .bool (decide ((dC m) = (92 : Int)))) rfl rfl rfl rfl ?_
          refine sq.e ?_
          by_cases c8_0 : (dC m) = (92 : Int)
          · rw [decide_eq_true c8_0]
            refine AWp.condT rfl rfl ?_
            refine AWp.rowV (l := _) pok ?_
            refine sq.c (v := .pointer (some ⟨b, 0, none⟩)) rfl rfl rfl rfl ?_
            refine sq.x rfl (CallsF.fn rfl (by kernel_rfl) rfl rfl) (f102_spec (m.drop (dN m).toNat) hb40 (by omega)) ?_ ?_
            · intro h48 n49 T_ s50 hn2
              have hs := hs.at (by simp) s50
              refine ⟨rfl, .inr ⟨rfl, hs, Nat.le_trans hn hn2, ?_⟩⟩
              rw [hq, val_esc hok c8_0, T_]
            · rintro _ h48 n49 ⟨c_, r_, hesc, rfl, hb47⟩ s50 hn2 hf
              refine sq.w ?_
              have hb1 := s50.get1 (Ne.symm e_b_n) hb1
              have R_r := R_r.but s50 (fun c hc hm => d_r_b c hc (List.mem_singleton.1 hm))
              have hs := hs.at (by simp) s50
              have hn := Nat.le_trans hn hn2
              refine sq.c (v := .int .i32 ((c_ : Int))) rfl rfl rfl rfl ?_
              refine sq.e (AWp.rowV (l := _) pok ?_)
              refine sq.c (v := .int .i32 ((c_ : Int))) rfl rfl rfl rfl ?_
              have hfo := hf
              refine sq.k rfl (CallsF.fn rfl (by kernel_rfl) rfl rfl) (f61_spec zs hpa hb1 R_r d_r_n (by omega) (c_ : Int) (esc_len hesc).2) ?_
              rintro u54 h55 n56 ⟨a51, cp52, hb53, R_r, hB_, d_r_n⟩ s57 hn2 hf
              refine sq.w ?_
              have dn_b : ∀ c ∈ blkOf (.slice a51 (zs ++ (encR (c_ : Int))).length cp52), c ≠ b := fun c hc => (hB_ c hc).elim (fun q => d_r_b c q) (fun q e => by rw [e] at q; have := hfo _ q; rw [hb47] at this; cases this)
              have hb47 := s57 _ _ (fun hm => (List.mem_cons.1 hm).elim (e_b_n) (fun q => d_r_b _ q rfl)) hb47
              have hs := SubBut.own2 (v := .slice a_r (zs).length cp_r) hs z_n B_r hf0 s57
              have B_r : ∀ c ∈ blkOf (.slice a51 (zs ++ (encR (c_ : Int))).length cp52), c ∈ [b] ∨ n ≤ c := fun c hc => (hB_ c hc).elim (B_r c) (fun q => .inr (Nat.le_trans hn q))
              have hn := Nat.le_trans hn hn2
              have d_r_b := dn_b
              refine sq.e ?_
              have hen := enc_len (c_ : Int)
              have hes := esc_len hesc
              refine ⟨_, _, rfl, by omega, r_, zs ++ encR (c_ : Int), g, .pointer (some ⟨n, 0, none⟩), a51, cp52, rfl, hs, hn, hf, hb47, hb53, R_r, d_r_b, d_r_n, B_r, (.inr rfl), (fun e => absurd e (app_ne _ _)), (by omega), (by rw [List.length_append]; omega), (by rw [hq, val_esc hok c8_0, hesc]), getV [undef, undef, (y5 2), undef, .int .i32 ((c_ : Int)), .int .i64 (dN m), .tuple #[.int .i32 (dC m), .int .i64 (dN m)], .pointer (some ⟨b, 0, none⟩), .pointer (some ⟨b, 0, none⟩), .pointer (some ⟨b, 0, none⟩), .string (strB m), .tuple #[.int .i32 (dC m), .int .i64 (dN m)], .int .i32 (dC m), .int .i64 (dN m), .int .i64 (dN m), .bool true, .bool true, .int .i32 (dC m), .bool true, .bool true, undef, undef, .bool true, .bool true, undef, .pointer (some ⟨b, 0, none⟩), .pointer (some ⟨b, 0, none⟩), .pointer (some ⟨b, 0, none⟩), .pointer (some ⟨b, 0, none⟩), .string (strB m), .int .i64 (dN m), .string (strB (m.drop (dN m).toNat)), .pointer (some ⟨b, 0, none⟩), .pointer (some ⟨b, 0, none⟩), .int .i32 (dC m), .bool false, .bool false, (y5 37), .bool true, .bool true, .pointer (some ⟨b, 0, none⟩), .int .i32 ((c_ : Int)), .int .i32 ((c_ : Int)), u54], rfl⟩
          · rw [decide_eq_false c8_0]
            refine AWp.condF rfl rfl ?_
            refine AWp.skip (AWp.rowV (l := _) pok ?_)
            refine sq.c (v := .int .i32 (dC m)) rfl rfl rfl rfl ?_
            have hfo := hf
            refine sq.k rfl (CallsF.fn rfl (by kernel_rfl) rfl rfl) (f61_spec zs hpa hb1 R_r d_r_n (by omega) (dC m) (dC_isR m)) ?_
            rintro u61 h62 n63 ⟨a58, cp59, hb60, R_r, hB_, d_r_n⟩ s64 hn2 hf
            refine sq.w ?_
            have dn_b : ∀ c ∈ blkOf (.slice a58 (zs ++ (encR (dC m))).length cp59), c ≠ b := fun c hc => (hB_ c hc).elim (fun q => d_r_b c q) (fun q e => by rw [e] at q; have := hfo _ q; rw [hb40] at this; cases this)
            have hb40 := s64 _ _ (fun hm => (List.mem_cons.1 hm).elim (e_b_n) (fun q => d_r_b _ q rfl)) hb40
            have hs := SubBut.own2 (v := .slice a_r (zs).length cp_r) hs z_n B_r hf0 s64
            have B_r : ∀ c ∈ blkOf (.slice a58 (zs ++ (encR (dC m))).length cp59), c ∈ [b] ∨ n ≤ c := fun c hc => (hB_ c hc).elim (B_r c) (fun q => .inr (Nat.le_trans hn q))
            have hn := Nat.le_trans hn hn2
            have d_r_b := dn_b
            refine sq.e ?_
            have hen := enc_len (dC m)
            skip
            refine ⟨_, _, rfl, by omega, m.drop (dN m).toNat, zs ++ encR (dC m), g, .pointer (some ⟨n, 0, none⟩), a58, cp59, rfl, hs, hn, hf, hb40, hb60, R_r, d_r_b, d_r_n, B_r, (.inr rfl), (fun e => absurd e (app_ne _ _)), (by omega), (by rw [List.length_append]; omega), (by rw [hq, val_go hok c6_0 c8_0]), getV [undef, undef, (y5 2), undef, .int .i32 (dC m), .int .i64 (dN m), .tuple #[.int .i32 (dC m), .int .i64 (dN m)], .pointer (some ⟨b, 0, none⟩), .pointer (some ⟨b, 0, none⟩), .pointer (some ⟨b, 0, none⟩), .string (strB m), .tuple #[.int .i32 (dC m), .int .i64 (dN m)], .int .i32 (dC m), .int .i64 (dN m), .int .i64 (dN m), .bool true, .bool true, .int .i32 (dC m), .bool true, .bool true, undef, undef, .bool true, .bool true, undef, .pointer (some ⟨b, 0, none⟩), .pointer (some ⟨b, 0, none⟩), .pointer (some ⟨b, 0, none⟩), .pointer (some ⟨b, 0, none⟩), .string (strB m), .int .i64 (dN m), .string (strB (m.drop (dN m).toNat)), .pointer (some ⟨b, 0, none⟩), .pointer (some ⟨b, 0, none⟩), .int .i32 (dC m), .bool false, .bool false, (y5 37), .bool false, .bool false, (y5 40), (y5 41), .int .i32 (dC m), u61], rfl⟩
  · rw [decide_eq_false c3_1]
    refine sq.s (wantF (g := 2) (d := 16) rfl rfl rfl) rfl ?_
    refine sq.s (wantF (g := 2) (d := 16) rfl rfl rfl) rfl ?_
    refine sq.s (wantF (g := 2) (d := 16) rfl rfl rfl) rfl ?_
    refine sq.s (wantU (g := 5) (d := 19) rfl rfl rfl) rfl ?_
    refine sq.s (wantU (g := 5) (d := 19) rfl rfl rfl) rfl ?_
    refine sq.s (wantF (g := 2) (d := 16) rfl rfl rfl) rfl ?_
    refine sq.c (v := .bool false) rfl rfl rfl rfl ?_
    refine sq.x rfl (CallsF.fn rfl (by kernel_rfl) rfl rfl) (f69_spec false) ?_ ?_
    · intro h65 n66 T_ s67 hn2
      have hs := hs.trans (s67.mono (by simp))
      refine ⟨rfl, .inr ⟨rfl, hs, Nat.le_trans hn hn2, ?_⟩⟩
      rw [hq]
      exact val_no (go_bad (fun q => c3_1 q.1))
    · rintro _ h65 n66 ⟨rfl, m_1⟩ s67 hn2 hf
      cases m_1
def labQ (l : List UInt8) : Prop := l.contains 61 = true ∧ Lib.hasPrefix l (cutA l 61 ++ [61, 34]) = true
instance (l : List UInt8) : Decidable (labQ l) := by unfold labQ; infer_instance
def labP (l : List UInt8) : Option (Lab × List UInt8) :=
  if labQ l then (match valP (l.drop (cutA l 61 ++ [61, 34]).length) with
    | none => none
    | some (v, r) => some ((strB (cutA l 61), strB v), r)) else none
theorem lab_no {l : List UInt8} (h : ¬ labQ l) : labP l = none := if_neg h
theorem lab_none {l : List UInt8} (h : labQ l) (hv : valP (l.drop (cutA l 61 ++ [61, 34]).length) = none) : labP l = none := by unfold labP; rw [if_pos h, hv]
theorem lab_yes {l v r : List UInt8} (h : labQ l) (hv : valP (l.drop (cutA l 61 ++ [61, 34]).length) = some (v, r)) : labP l = some ((strB (cutA l 61), strB v), r) := by unfold labP; rw [if_pos h, hv]
def moreF : Nat → List UInt8 → List Lab → Option (List Lab × List UInt8)
  | 0, _, _ => none
  | f + 1, r, ls => if Lib.hasPrefix r [44] = true then (match labP (r.drop 1) with
      | none => none
      | some (x, r') => moreF f r' (ls ++ [x])) else some (ls, r)
def endQ (ls : List Lab) (r : List UInt8) : Prop := Lib.hasPrefix r [125] = true ∧ r.drop 1 = [] ∧ mayB ls = true
instance (ls : List Lab) (r : List UInt8) : Decidable (endQ ls r) := by unfold endQ; infer_instance
def parP (l : List UInt8) : Option (List Lab) :=
  if Lib.hasPrefix l [123] = true then (match labP (l.drop 1) with
    | none => none
    | some (x, r) => (match moreF (l.length + 1) r [x] with
      | none => none
      | some (ls, r') => if endQ ls r' then some ls else none)) else none
theorem par_0 {l : List UInt8} (h : ¬ Lib.hasPrefix l [123] = true) : parP l = none := if_neg h
theorem par_1 {l : List UInt8} (h : Lib.hasPrefix l [123] = true) (h1 : labP (l.drop 1) = none) : parP l = none := by unfold parP; rw [if_pos h, h1]
theorem par_2 {l r : List UInt8} {x : Lab} (h : Lib.hasPrefix l [123] = true) (h1 : labP (l.drop 1) = some (x, r)) : parP l = match moreF (l.length + 1) r [x] with
      | none => none
      | some (ls, r') => if endQ ls r' then some ls else none := by unfold parP; rw [if_pos h, h1]
theorem more_no {f : Nat} {r : List UInt8} {ls : List Lab} (h : Lib.hasPrefix r [44] = false) : moreF (f + 1) r ls = some (ls, r) := by rw [moreF, if_neg (by rw [h]; decide)]
theorem more_none {f : Nat} {r : List UInt8} {ls : List Lab} (h : Lib.hasPrefix r [44] = true) (h1 : labP (r.drop 1) = none) : moreF (f + 1) r ls = none := by rw [moreF, if_pos h, h1]
theorem more_yes {f : Nat} {r r' : List UInt8} {ls : List Lab} {x : Lab} (h : Lib.hasPrefix r [44] = true) (h1 : labP (r.drop 1) = some (x, r')) : moreF (f + 1) r ls = moreF f r' (ls ++ [x]) := by rw [moreF, if_pos h, h1]
theorem pre_pos {l p : List UInt8} (h : Lib.hasPrefix l p = true) : p.length ≤ l.length := by
  unfold Lib.hasPrefix at h
  exact (List.isPrefixOf_iff_prefix.1 h).length_le
theorem f67_spec {h : Heap} {n : Nat} {b : Nat} {ci : CI} (l : List UInt8) (hb : h.get b = some (.cells [.string (strB l)] true ci)) (hl : l.length < 1000000000) (hld : Laid0 h) :
    Throws Tryz.prog 67 [.pointer (some ⟨b, 0, none⟩)] h n ([b]) (fun v h2 _ => ∃ (x : Lab) (r : List UInt8), labP l = some (x, r) ∧ v = .agg #[.string x.1, .string x.2] ∧ (r.length < l.length ∧ x.1.data.toList.length ≤ l.length ∧ x.2.data.toList.length ≤ 4 * l.length) ∧ h2.get b = some (.cells [.string (strB r)] true ci)) (WRONG) (labP l = none) := by
  refine Throws.free fun hf => ?_
  have hb0 := hb
  have hll : (strB l).data.toList.length = l.length := rfl
  have hcl : (cutA l 61).length ≤ l.length := (List.takeWhile_sublist _).length_le
  have hdl : (l.drop (cutA l 61 ++ [61, 34]).length).length = l.length - (cutA l 61 ++ [61, 34]).length := List.length_drop
  have hal : (cutA l 61 ++ [61, 34]).length = (cutA l 61).length + 2 := List.length_append
  have hs : SubBut h h ([b]) := .refl _ _
  have hn : n ≤ n := Nat.le_refl _
  have hf0 := hf
  refine Throws.of_bodyV (args := [.pointer (some ⟨b, 0, none⟩)]) (vs := [.pointer (some ⟨b, 0, none⟩), undef, undef, undef, undef, undef, undef, undef, undef, undef, undef, undef, undef, undef, undef, undef, undef, undef, undef, undef, undef, undef, undef, undef, undef]) Tryz.func67 rfl rfl ?_
  refine AWp.seq (AWp.rowV (l := _) pok ?_)
  have e_b_n : b ≠ n := hf.ne hb
  have z_n : h.get n = none := hf0 _ hn
  refine sq.op rfl rfl (Does.alloc (cs := [.string (⟨#[]⟩), .string (⟨#[]⟩)]) hf (z := .agg #[.string (⟨#[]⟩), .string (⟨#[]⟩)]) (by kernel_rfl) rfl) ?_
  rintro _ h2 n3 ⟨rfl, hb1⟩ s4 hn2 hf
  refine sq.w ?_
  have hb := s4.sub _ _ hb
  have hs := hs.trans (s4.mono (by simp))
  have hn := Nat.le_trans hn hn2
  refine sq.e (AWp.seq (AWp.rowV (l := _) pok ?_))
  refine sq.c (v := .pointer (some ⟨b, 0, none⟩)) rfl rfl rfl rfl ?_
  refine sq.c (v := .pointer (some ⟨b, 0, none⟩)) rfl rfl rfl rfl ?_
  refine sq.c (v := .pointer (some ⟨b, 0, none⟩)) rfl rfl (by kernel_rfl) rfl ?_
  refine sq.c (v := .string (strB l)) rfl rfl (ld1 (P := Tryz.prog) (t := 9) (p := 0) (v := .string (strB l)) (by kernel_rfl) (by kernel_rfl) hb rfl) rfl ?_
  refine sq.t (v := .tuple #[.string (strB (cutA l 61)), .string (strB (cutT l 61)), .bool ((l).contains 61)]) rfl (CallsF.fn rfl (by kernel_rfl) rfl rfl) (fun hf => f86_spec (strB l) 61 (by omega)) hf rfl ?_
  intro n5 hn2 hf
  have hn := Nat.le_trans hn hn2
  refine sq.c (v := .tuple #[.string (strB (cutA l 61)), .string (strB (cutT l 61)), .bool ((l).contains 61)]) rfl rfl rfl rfl ?_
  refine sq.c (v := .string (strB (cutA l 61))) rfl rfl rfl rfl ?_
  refine sq.c (v := .string (strB (cutT l 61))) rfl rfl rfl rfl ?_
  refine sq.c (v := .bool ((l).contains 61)) rfl rfl rfl rfl ?_
  refine sq.c (v := .string (strB (cutA l 61))) rfl rfl rfl rfl ?_
  refine sq.c (v := .string (strB (cutT l 61))) rfl rfl rfl rfl ?_
  refine sq.c (v := .bool ((l).contains 61)) rfl rfl rfl rfl ?_
  refine sq.e (AWp.seq (AWp.rowV (l := _) pok ?_))
  refine sq.c (v := .bool ((l).contains 61)) rfl rfl rfl rfl ?_
  refine sq.x rfl (CallsF.fn rfl (by kernel_rfl) rfl rfl) (f69_spec ((l).contains 61)) ?_ ?_
  · intro h6 n7 T_ s8 hn2
    have hs := hs.trans (s8.mono (by simp))
    refine ⟨rfl, .inr ⟨rfl, hs, Nat.le_trans hn hn2, ?_⟩⟩
    exact lab_no fun q => absurd (q.1.symm.trans T_) (by decide)
  · rintro _ h6 n7 ⟨rfl, m_1⟩ s8 hn2 hf
    refine sq.w ?_
    have hb := s8.sub _ _ hb
    have hb1 := s8.sub _ _ hb1
    have hs := hs.trans (s8.mono (by simp))
    have hn := Nat.le_trans hn hn2
    refine sq.e (AWp.seq (AWp.rowV (l := _) pok ?_))
    refine sq.c (v := .pointer (some ⟨b, 0, none⟩)) rfl rfl rfl rfl ?_
    refine sq.c (v := .string (strB (cutA l 61))) rfl rfl rfl rfl ?_
    refine sq.c (v := .string (strB (cutA l 61 ++ [61, 34]))) rfl rfl (Eq.trans (add_str (a := strB (cutA l 61)) (b := (⟨#[61, 34]⟩ : ByteArray)) (by show (cutA l 61).length + 2 < _; omega)) (okV (congrArg Value.string (strB_add _ _)))) rfl ?_
    refine sq.x rfl (CallsF.fn rfl (by kernel_rfl) rfl rfl) (f66_spec l hb (strB (cutA l 61 ++ [61, 34]))) ?_ ?_
    · intro h10 n11 T_ s12 hn2
      have hs := hs.at (by simp) s12
      refine ⟨rfl, .inr ⟨rfl, hs, Nat.le_trans hn hn2, ?_⟩⟩
      exact lab_no fun q => absurd (q.2.symm.trans T_) (by decide)
    · rintro _ h10 n11 ⟨rfl, p_1, hb9⟩ s12 hn2 hf
      refine sq.w ?_
      have hb1 := s12.get1 (Ne.symm e_b_n) hb1
      have hs := hs.at (by simp) s12
      have hn := Nat.le_trans hn hn2
      refine sq.e (AWp.seq (AWp.rowV (l := _) pok ?_))
      refine sq.c (v := .string (strB (cutA l 61))) rfl rfl rfl rfl ?_
      refine sq.c (v := .pointer (some ⟨b, 0, none⟩)) rfl rfl rfl rfl ?_
      refine sq.x rfl (CallsF.fn rfl (by kernel_rfl) rfl rfl) (f87_spec (l.drop (cutA l 61 ++ [61, 34]).length) hb9 (by omega) (hld.keep2 hs hb0)) ?_ ?_
      · intro h14 n15 T_ s16 hn2
        have hs := hs.at (by simp) s16
        refine ⟨rfl, .inr ⟨rfl, hs, Nat.le_trans hn hn2, ?_⟩⟩
        exact lab_none ⟨m_1, p_1⟩ T_
      · rintro _ h14 n15 ⟨o_, r_, hv_, rfl, hol, hb13⟩ s16 hn2 hf
        refine sq.w ?_
        have hb1 := s16.get1 (Ne.symm e_b_n) hb1
        have hs := hs.at (by simp) s16
        have hn := Nat.le_trans hn hn2
        refine sq.c (v := .agg #[.string (strB (cutA l 61)), .string (strB o_)]) rfl rfl (by kernel_rfl) rfl ?_
        refine sq.op rfl rfl (Does.store (k := 2) (xs := [.string (strB (cutA l 61)), .string (strB o_)]) (cs' := [.string (strB (cutA l 61)), .string (strB o_)]) hf (by kernel_rfl) rfl rfl rfl hb1 rfl rfl (Nat.le_of_ble_eq_true rfl) rfl) ?_
        rintro _ h18 n19 ⟨rfl, hb17⟩ s20 hn2 hf
        refine sq.w0 ?_
        have hb13 := s20.get1 (e_b_n) hb13
        have hs := hs.fresh z_n s20
        have hn := Nat.le_trans hn hn2
        refine sq.e ?_
        refine AWp.ret ?_
        refine ⟨rfl, [.agg #[.string (strB (cutA l 61)), .string (strB o_)]], (res_cell (ldA (P := Tryz.prog) (t := 40) (p := 0) (k := 2) (xs := [.string (strB (cutA l 61)), .string (strB o_)]) (by kernel_rfl) (by kernel_rfl) hb17 rfl (Nat.le_of_ble_eq_true rfl))), .inl ⟨.agg #[.string (strB (cutA l 61)), .string (strB o_)], rfl, hs, hn, ?_⟩⟩
        have hpl : (cutA l 61 ++ [61, 34]).length ≤ l.length := pre_pos p_1
        exact ⟨(strB (cutA l 61), strB o_), r_, lab_yes ⟨m_1, p_1⟩ hv_, rfl, ⟨by omega, hcl, (by show o_.length ≤ _; omega)⟩, hb13⟩
theorem f43_spec {h : Heap} {n : Nat} {b : Nat} {ci : CI} (l : List UInt8) (hb : h.get b = some (.cells [.string (strB l)] true ci)) (hl : l.length < 1000000000) (hld : Laid0 h) :
    Throws Tryz.prog 43 [.pointer (some ⟨b, 0, none⟩)] h n ([b]) (fun v h2 _ => ∃ (ls : List Lab) (a : Option Addr) (cp : Nat), parP l = some ls ∧ v = .slice a ls.length cp ∧ OwnRow encLab 40 h h2 (.slice a ls.length cp) ls) (WRONG) (parP l = none) := by
  refine Throws.free fun hf => ?_
  have hb0 := hb
  have hd1 : (l.drop 1).length = l.length - 1 := List.length_drop
  have hs : SubBut h h ([b]) := .refl _ _
  have hn : n ≤ n := Nat.le_refl _
  have hf0 := hf
  refine Throws.of_bodyV (args := [.pointer (some ⟨b, 0, none⟩)]) (vs := [.pointer (some ⟨b, 0, none⟩), undef, undef, undef, undef, undef, undef, undef, undef, undef, undef, undef, undef, undef, undef, undef, undef, undef, undef, undef, undef, undef, undef, undef, undef, undef, undef, undef, undef, undef, undef, undef, undef, undef]) Tryz.func43 rfl rfl ?_
  refine AWp.seq (AWp.rowV (l := _) pok ?_)
  refine sq.c (v := .slice none (0) (0)) rfl rfl rfl rfl ?_
  refine sq.e (AWp.seq (AWp.rowV (l := _) pok ?_))
  refine sq.c (v := .pointer (some ⟨b, 0, none⟩)) rfl rfl rfl rfl ?_
  refine sq.x rfl (CallsF.fn rfl (by kernel_rfl) rfl rfl) (f66_spec l hb ⟨#[123]⟩) ?_ ?_
  · intro h2 n3 T_ s4 hn2
    have hs := hs.at (by simp) s4
    refine ⟨rfl, .inr ⟨rfl, hs, Nat.le_trans hn hn2, ?_⟩⟩
    exact par_0 fun q => absurd (q.symm.trans T_) (by decide)
  · rintro _ h2 n3 ⟨rfl, p_1, hb1⟩ s4 hn2 hf
    refine sq.w ?_
    have hs := hs.at (by simp) s4
    have hn := Nat.le_trans hn hn2
    refine sq.e (AWp.seq (AWp.rowV (l := _) pok ?_))
    refine sq.c (v := .pointer (some ⟨b, 0, none⟩)) rfl rfl rfl rfl ?_
    refine sq.x rfl (CallsF.fn rfl (by kernel_rfl) rfl rfl) (f67_spec (l.drop 1) hb1 (by omega) (hld.keep2 hs hb0)) ?_ ?_
    · intro h6 n7 T_ s8 hn2
      have hs := hs.at (by simp) s8
      refine ⟨rfl, .inr ⟨rfl, hs, Nat.le_trans hn hn2, ?_⟩⟩
      exact par_1 p_1 T_
    · rintro _ h6 n7 ⟨x_, r_, hx_, rfl, hxl, hb5⟩ s8 hn2 hf
      refine sq.w ?_
      have hs := hs.at (by simp) s8
      have hn := Nat.le_trans hn hn2
      have e_b_n7 : b ≠ n7 := hf.ne hb5
      have z_n7 : h.get n7 = none := hf0 _ hn
      refine sq.op rfl rfl (Does.build (e := 40) (cs := [.string (x_.1), .string (x_.2)]) hf (fun _ _ => by kernel_rfl)) ?_
      rintro _ h10 n11 ⟨rfl, hb9⟩ s12 hn2 hf
      refine sq.w ?_
      have hb5 := s12.sub _ _ hb5
      have hs := hs.trans (s12.mono (by simp))
      have hn := Nat.le_trans hn hn2
      refine sq.c (v := .slice (some ⟨n7, 0, none⟩) (1) (1)) rfl rfl rfl rfl ?_
      refine sq.e (AWp.seq (AWp.block ?_))
      have R_l : OwnRow encLab 40 h h10 (.slice (some ⟨n7, 0, none⟩) [x_].length 1) [x_] := .inr ⟨_, _, _, rfl, hb9, z_n7, rfl, ⟨Nat.zero_lt_one, Nat.le_refl 1⟩, .inr rfl⟩
      have d_l_b : ∀ c ∈ blkOf (.slice (some ⟨n7, 0, none⟩) [x_].length 1), c ≠ b := fun c hc e => by
        have e2 := List.mem_singleton.1 (show c ∈ [n7] from hc)
        subst e2; exact e_b_n7 e.symm
      refine AWp.loopV (fun d vs h14 n15 => ∃ (m : List UInt8) (ls : List Lab) (f : Nat) (a_l : Option Addr) (cp_l : Nat), d = f + 1 ∧ SubBut h h14 ([b]) ∧ n ≤ n15 ∧ Free h14 n15 ∧ h14.get b = some (.cells [.string (strB m)] true ci) ∧ OwnRow encLab 40 h h14 (.slice a_l (ls).length cp_l) (ls) ∧ (∀ c ∈ blkOf (.slice a_l (ls).length cp_l), c ≠ b) ∧ (m.length < f) ∧ (ls.length + m.length ≤ l.length) ∧ (m.length ≤ l.length) ∧ (∀ x ∈ ls, x.1.data.toList.length < 9223372036854775808 ∧ x.2.data.toList.length < 9223372036854775808) ∧ (moreF (l.length + 1) r_ [x_] = moreF f m ls) ∧ ∃ y13 : Nat → Value, vs = [.pointer (some ⟨b, 0, none⟩), undef, .slice none (0) (0), .slice a_l (ls.length) cp_l, .pointer (some ⟨b, 0, none⟩), undef, .pointer (some ⟨b, 0, none⟩), .agg #[.string (x_.1), .string (x_.2)], .slice (some ⟨n7, 0, none⟩) (1) (1), (y13 9), (y13 10), (y13 11), (y13 12), (y13 13), (y13 14), (y13 15), (y13 16), (y13 17), (y13 18), (y13 19), (y13 20), undef, undef, undef, undef, undef, undef, undef, undef, undef, undef, undef, undef, undef]) (l.length + 1 + 1) ⟨r_, [x_], l.length + 1, (some ⟨n7, 0, none⟩), 1, rfl, hs, hn, hf, hb5, R_l, d_l_b, (by omega), (by simp only [List.length_cons, List.length_nil]; omega), (by omega), (by intro x hx; rw [List.mem_singleton] at hx; subst hx; exact ⟨by omega, by omega⟩), (rfl), getV [undef, undef, undef, undef, undef, undef, undef, undef, undef, undef, undef, undef, undef, undef, undef, undef, undef, undef, undef, undef, undef], rfl⟩ ?_
      rintro d vs h14 n15 ⟨m, ls, f, a_l, cp_l, rfl, hs, hn, hf, hb5, R_l, d_l_b, hlen, hll, hmm, hsz, hq, y13, rfl⟩
      obtain ⟨g, rfl⟩ : ∃ g, f = g + 1 := ⟨f - 1, by omega⟩
      have hd2 : (m.drop 1).length = m.length - 1 := List.length_drop
      refine AWp.seq (AWp.seq (AWp.rowV (l := _) pok ?_))
      refine sq.c (v := .pointer (some ⟨b, 0, none⟩)) rfl rfl rfl rfl ?_
      refine sq.c (v := .pointer (some ⟨b, 0, none⟩)) rfl rfl rfl rfl ?_
      refine sq.c (v := .pointer (some ⟨b, 0, none⟩)) rfl rfl (by kernel_rfl) rfl ?_
      refine sq.c (v := .string (strB m)) rfl rfl (ld1 (P := Tryz.prog) (t := 9) (p := 0) (v := .string (strB m)) (by kernel_rfl) (by kernel_rfl) hb5 rfl) rfl ?_
      refine sq.t (v := .bool (Lib.hasPrefix m [44])) rfl (CallsF.fn rfl (by kernel_rfl) rfl rfl) (fun hf => f68_spec (strB m) ⟨#[44]⟩) hf rfl ?_
      intro n16 hn2 hf
      have hn := Nat.le_trans hn hn2
      refine sq.e ?_
      rcases Bool.eq_false_or_eq_true (Lib.hasPrefix m [44]) with c_cm | c_cm
      · rw [c_cm]
        refine AWp.condT rfl rfl ?_
        refine AWp.skip (AWp.block (AWp.seq (AWp.rowV (l := _) pok ?_)))
        refine sq.c (v := .pointer (some ⟨b, 0, none⟩)) rfl rfl rfl rfl ?_
        refine sq.x rfl (CallsF.fn rfl (by kernel_rfl) rfl rfl) (f66_spec m hb5 ⟨#[44]⟩) ?_ ?_
        · intro h18 n19 T_ s20 hn2
          have hs := hs.at (by simp) s20
          refine ⟨rfl, .inr ⟨rfl, hs, Nat.le_trans hn hn2, ?_⟩⟩
          exact absurd (c_cm.symm.trans T_) (by decide)
        · rintro _ h18 n19 ⟨rfl, p_2, hb17⟩ s20 hn2 hf
          refine sq.w ?_
          have R_l := R_l.but s20 (fun c hc hm => d_l_b c hc (List.mem_singleton.1 hm))
          have hs := hs.at (by simp) s20
          have hn := Nat.le_trans hn hn2
          refine sq.e (AWp.rowV (l := _) pok ?_)
          refine sq.c (v := .slice a_l (ls.length) cp_l) rfl rfl rfl rfl ?_
          refine sq.c (v := .pointer (some ⟨b, 0, none⟩)) rfl rfl rfl rfl ?_
          refine sq.x rfl (CallsF.fn rfl (by kernel_rfl) rfl rfl) (f67_spec (m.drop 1) hb17 (by omega) (hld.keep2 hs hb0)) ?_ ?_
          · intro h22 n23 T_ s24 hn2
            have hs := hs.at (by simp) s24
            refine ⟨rfl, .inr ⟨rfl, hs, Nat.le_trans hn hn2, ?_⟩⟩
            rw [par_2 p_1 hx_, hq, more_none c_cm T_]
          · rintro _ h22 n23 ⟨x2_, r2_, hx2_, rfl, hxl2, hb21⟩ s24 hn2 hf
            refine sq.w ?_
            have R_l := R_l.but s24 (fun c hc hm => d_l_b c hc (List.mem_singleton.1 hm))
            have hs := hs.at (by simp) s24
            have hn := Nat.le_trans hn hn2
            have e_b_n23 : b ≠ n23 := hf.ne hb21
            have d_l_n23 : ∀ c ∈ blkOf (.slice a_l (ls).length cp_l), c ≠ n23 := fun c hc e => R_l.ne' (hf _ (Nat.le_refl _)) c hc (List.mem_singleton.2 e)
            have z_n23 : h.get n23 = none := hf0 _ hn
            refine sq.op rfl rfl (Does.build (e := 40) (cs := [.string (x2_.1), .string (x2_.2)]) hf (fun _ _ => by kernel_rfl)) ?_
            rintro _ h26 n27 ⟨rfl, hb25⟩ s28 hn2 hf
            refine sq.w ?_
            have hb21 := s28.sub _ _ hb21
            have R_l := R_l.keep s28
            have hs := hs.trans (s28.mono (by simp))
            have hn := Nat.le_trans hn hn2
            have hz0 : h.get n27 = none := hf0 _ hn
            have hfo := hf
            refine sq.op rfl rfl (Does.append (E := encLab) (xs := ls) (ys := [(x2_.1, x2_.2)]) appLab ⟨.slice 40, by kernel_rfl, fun _ q => by cases q⟩ hf hs R_l (IsRow.of (E := encLab) (xs := [(x2_.1, x2_.2)]) (cap := 1) hb25 (Nat.le_refl _)) rfl rfl (by simp only [List.length_cons, List.length_nil]; omega) (by simp only [List.length_cons, List.length_nil]; omega) hz0) ?_
            rintro v32 h29 n30 ⟨R_l, hs, hB33⟩ s31 hn2 hf
            refine sq.w ?_
            have dn_l_b : ∀ c ∈ blkOf v32, c ≠ b := fun c hc => (hB33 c hc).elim (fun q => d_l_b c q) (fun q => by rw [q]; exact (hfo.ne hb21).symm)
            have dn_l_n23 : ∀ c ∈ blkOf v32, c ≠ n23 := fun c hc => (hB33 c hc).elim (fun q => d_l_n23 c q) (fun q => by rw [q]; exact (hfo.ne hb25).symm)
            have hb21 := s31 _ _ (fun hm => d_l_b _ hm rfl) hb21
            have hb25 := s31 _ _ (fun hm => d_l_n23 _ hm rfl) hb25
            have d_l_b := dn_l_b
            have d_l_n23 := dn_l_n23
            obtain ⟨a34, cp35, rfl⟩ := R_l.slice
            have hn := Nat.le_trans hn hn2
            refine sq.c (v := .slice a34 (ls ++ [(x2_.1, x2_.2)]).length cp35) rfl rfl rfl rfl ?_
            refine sq.e ?_
            refine ⟨_, _, rfl, by omega, r2_, ls ++ [x2_], g, a34, cp35, rfl, hs, hn, hf, hb21, R_l, d_l_b, (by omega), (by rw [List.length_append, List.length_singleton]; omega), (by omega), (by intro x hx; rcases List.mem_append.1 hx with q | q; exact hsz x q; rw [List.mem_singleton] at q; subst q; exact ⟨by omega, by omega⟩), (by rw [hq, more_yes c_cm hx2_]), getV [undef, undef, undef, undef, undef, undef, undef, undef, undef, .pointer (some ⟨b, 0, none⟩), .pointer (some ⟨b, 0, none⟩), .pointer (some ⟨b, 0, none⟩), .string (strB m), .bool true, .pointer (some ⟨b, 0, none⟩), undef, .slice a_l (ls.length) cp_l, .pointer (some ⟨b, 0, none⟩), .agg #[.string (x2_.1), .string (x2_.2)], .slice (some ⟨n23, 0, none⟩) (1) (1), .slice a34 (ls ++ [(x2_.1, x2_.2)]).length cp35], rfl⟩
      · rw [c_cm]
        refine AWp.condF rfl rfl ?_
        refine AWp.exit ?_
        refine AWp.seq (AWp.rowV (l := _) pok ?_)
        refine sq.c (v := .pointer (some ⟨b, 0, none⟩)) rfl rfl rfl rfl ?_
        refine sq.x rfl (CallsF.fn rfl (by kernel_rfl) rfl rfl) (f66_spec m hb5 ⟨#[125]⟩) ?_ ?_
        · intro h37 n38 T_ s39 hn2
          have hs := hs.at (by simp) s39
          refine ⟨rfl, .inr ⟨rfl, hs, Nat.le_trans hn hn2, ?_⟩⟩
          rw [par_2 p_1 hx_, hq, more_no c_cm]
          exact if_neg fun q => absurd (q.1.symm.trans T_) (by decide)
        · rintro _ h37 n38 ⟨rfl, p_3, hb36⟩ s39 hn2 hf
          refine sq.w ?_
          have R_l := R_l.but s39 (fun c hc hm => d_l_b c hc (List.mem_singleton.1 hm))
          have hs := hs.at (by simp) s39
          have hn := Nat.le_trans hn hn2
          refine sq.e (AWp.seq (AWp.rowV (l := _) pok ?_))
          refine sq.c (v := .pointer (some ⟨b, 0, none⟩)) rfl rfl rfl rfl ?_
          refine sq.c (v := .pointer (some ⟨b, 0, none⟩)) rfl rfl rfl rfl ?_
          refine sq.c (v := .pointer (some ⟨b, 0, none⟩)) rfl rfl (by kernel_rfl) rfl ?_
          refine sq.c (v := .string (strB (m.drop 1))) rfl rfl (ld1 (P := Tryz.prog) (t := 9) (p := 0) (v := .string (strB (m.drop 1))) (by kernel_rfl) (by kernel_rfl) hb36 rfl) rfl ?_
          refine sq.c (v := .bool (decide (strB (m.drop 1) = (⟨#[]⟩ : ByteArray)))) rfl rfl (eqD _ _) rfl ?_
          refine sq.c (v := .bool (decide (strB (m.drop 1) = (⟨#[]⟩ : ByteArray)))) rfl rfl rfl rfl ?_
          by_cases c7_4 : strB (m.drop 1) = (⟨#[]⟩ : ByteArray)
          · rw [decide_eq_true c7_4]
            refine sq.c (v := .slice a_l (ls.length) cp_l) (wantT (g := 5) (d := 28) rfl rfl rfl) rfl rfl rfl ?_
            refine sq.t (v := .bool (mayB ls)) (wantT (g := 5) (d := 28) rfl rfl rfl) (CallsF.fn rfl (by kernel_rfl) rfl rfl) (fun hf => f24_spec ls R_l.is (by omega) hsz (hld.keep2 hs hb0)) hf rfl ?_
            intro n40 hn2 hf
            have hn := Nat.le_trans hn hn2
            refine sq.c (v := .bool (mayB ls)) rfl rfl rfl rfl ?_
            refine sq.x rfl (CallsF.fn rfl (by kernel_rfl) rfl rfl) (f69_spec (mayB ls)) ?_ ?_
            · intro h41 n42 T_ s43 hn2
              have hs := hs.trans (s43.mono (by simp))
              refine ⟨rfl, .inr ⟨rfl, hs, Nat.le_trans hn hn2, ?_⟩⟩
              rw [par_2 p_1 hx_, hq, more_no c_cm]
              exact if_neg fun q => absurd (q.2.2.symm.trans T_) (by decide)
            · rintro _ h41 n42 ⟨rfl, m_1⟩ s43 hn2 hf
              refine sq.w ?_
              have R_l := R_l.keep s43
              have hs := hs.trans (s43.mono (by simp))
              have hn := Nat.le_trans hn hn2
              refine sq.e (AWp.seq (AWp.rowV (l := _) pok ?_))
              refine sq.c (v := .slice a_l (ls.length) cp_l) rfl rfl rfl rfl ?_
              refine sq.c (v := .slice a_l (ls.length) cp_l) rfl rfl rfl rfl ?_
              refine sq.e ?_
              refine AWp.ret ?_
              refine ⟨rfl, [.slice a_l (ls.length) cp_l], rfl, .inl ⟨.slice a_l (ls.length) cp_l, rfl, hs, hn, ?_⟩⟩
              exact ⟨ls, _, _, by rw [par_2 p_1 hx_, hq, more_no c_cm]; exact if_pos ⟨p_3, strB_nil c7_4, m_1⟩, rfl, R_l⟩
          · rw [decide_eq_false c7_4]
            refine sq.s (wantF (g := 5) (d := 28) rfl rfl rfl) rfl ?_
            refine sq.s (wantF (g := 5) (d := 28) rfl rfl rfl) rfl ?_
            refine sq.c (v := .bool false) rfl rfl rfl rfl ?_
            refine sq.x rfl (CallsF.fn rfl (by kernel_rfl) rfl rfl) (f69_spec false) ?_ ?_
            · intro h44 n45 T_ s46 hn2
              have hs := hs.trans (s46.mono (by simp))
              refine ⟨rfl, .inr ⟨rfl, hs, Nat.le_trans hn hn2, ?_⟩⟩
              rw [par_2 p_1 hx_, hq, more_no c_cm]
              exact if_neg fun q => c7_4 (by rw [q.2.1])
            · rintro _ h44 n45 ⟨rfl, m_1⟩ s46 hn2 hf
              cases m_1
theorem f42_calm {h : Heap} {n : Nat} {p q : Nat} {v e : Value} (hp : h.get p = some (.cells [v] true ⟨22, 0, true⟩)) (hq : h.get q = some (.cells [e] true ⟨26, 0, true⟩)) (hpq : p ≠ q) :
    ACallD Tryz.prog 42 ([.pointer (some ⟨p, 0, none⟩), .pointer (some ⟨q, 0, none⟩)] : List Value).toArray .calm h n fun r m h2 n2 => (∃ u, r = .ret u) ∧ m = .calm ∧ SubBut h h2 [p, q] ∧ n ≤ n2 ∧ Free h2 n2 ∧ h2.get p = some (.cells [v] true ⟨22, 0, true⟩) ∧ h2.get q = some (.cells [e] true ⟨26, 0, true⟩) := by
  refine ACallD.free fun hf => ?_
  refine ACallD.of_body (args := [.pointer (some ⟨p, 0, none⟩), .pointer (some ⟨q, 0, none⟩)]) Tryz.func42 rfl ?_
  refine AWpS.seq (AWpS.recover rfl ?_)
  refine AWpS.of_wp ?_
  refine AWp.norm (k := 11) rfl rfl ?_
  show AWp Tryz.prog _ _ (frameV [.pointer (some ⟨p, 0, none⟩), .pointer (some ⟨q, 0, none⟩), undef, undef, undef, .nilIface, undef, undef, undef, undef, undef]) h n
  have hs : SubBut h h ([p, q]) := .refl _ _
  have hn : n ≤ n := Nat.le_refl _
  have hf0 := hf
  refine AWp.block (AWp.seq (AWp.rowV (l := _) pok ?_))
  refine sq.c (v := .bool true) rfl rfl (by kernel_rfl) rfl ?_
  refine sq.e ?_
  refine AWp.condT rfl rfl ?_
  refine AWp.rowV (l := _) pok ?_
  refine sq.c (v := .nilIface) rfl rfl rfl rfl ?_
  refine sq.e ?_
  refine ⟨rfl, [], rfl, ?_⟩
  exact ⟨⟨_, rfl⟩, rfl, hs, hn, hf, hp, hq⟩
theorem f42_pend {h : Heap} {n : Nat} {p q : Nat} {v e : Value} (hp : h.get p = some (.cells [v] true ⟨22, 0, true⟩)) (hq : h.get q = some (.cells [e] true ⟨26, 0, true⟩)) (hpq : p ≠ q) :
    ACallD Tryz.prog 42 ([.pointer (some ⟨p, 0, none⟩), .pointer (some ⟨q, 0, none⟩)] : List Value).toArray (.pend WRONG) h n fun r m h2 n2 => (∃ u, r = .ret u) ∧ m = .done WRONG ∧ SubBut h h2 [p, q] ∧ n ≤ n2 ∧ Free h2 n2 ∧ h2.get p = some (.cells [.slice none 0 0] true ⟨22, 0, true⟩) ∧ h2.get q = some (.cells [.int .i64 4] true ⟨26, 0, true⟩) := by
  refine ACallD.free fun hf => ?_
  refine ACallD.of_body (args := [.pointer (some ⟨p, 0, none⟩), .pointer (some ⟨q, 0, none⟩)]) Tryz.func42 rfl ?_
  refine AWpS.seq (AWpS.recover rfl ?_)
  refine AWpS.of_wp ?_
  refine AWp.norm (k := 11) rfl rfl ?_
  show AWp Tryz.prog _ _ (frameV [.pointer (some ⟨p, 0, none⟩), .pointer (some ⟨q, 0, none⟩), undef, undef, undef, .iface 51 (.agg #[]), undef, undef, undef, undef, undef]) h n
  have hs : SubBut h h ([p, q]) := .refl _ _
  have hn : n ≤ n := Nat.le_refl _
  have hf0 := hf
  refine AWp.block (AWp.seq (AWp.rowV (l := _) pok ?_))
  refine sq.c (v := .bool false) rfl rfl (by kernel_rfl) rfl ?_
  refine sq.e ?_
  refine AWp.condF rfl rfl ?_
  refine AWp.seq (AWp.rowV (l := _) pok ?_)
  refine sq.c (v := .tuple #[.agg #[], .bool true]) rfl rfl (by kernel_rfl) rfl ?_
  refine sq.c (v := .bool true) rfl rfl rfl rfl ?_
  refine sq.c (v := .agg #[]) rfl rfl rfl rfl ?_
  refine sq.e ?_
  refine AWp.condT rfl rfl ?_
  refine AWp.seq (AWp.rowV (l := _) pok ?_)
  have e_p_n : p ≠ n := hf.ne hp
  have e_q_n : q ≠ n := hf.ne hq
  have z_n : h.get n = none := hf0 _ hn
  refine sq.op rfl rfl (Does.alloc (cs := []) hf (z := .agg #[]) (by kernel_rfl) rfl) ?_
  rintro _ h2 n3 ⟨rfl, hb1⟩ s4 hn2 hf
  refine sq.w ?_
  have hp := s4.sub _ _ hp
  have hq := s4.sub _ _ hq
  have hs := hs.trans (s4.mono (by simp))
  have hn := Nat.le_trans hn hn2
  refine sq.op rfl rfl (Does.store (k := 0) (xs := []) (cs' := []) hf (by kernel_rfl) rfl rfl rfl hb1 rfl rfl (Nat.le_of_ble_eq_true rfl) rfl) ?_
  rintro _ h6 n7 ⟨rfl, hb5⟩ s8 hn2 hf
  refine sq.w0 ?_
  have hp := s8.get1 (e_p_n) hp
  have hq := s8.get1 (e_q_n) hq
  have hs := hs.fresh z_n s8
  have hn := Nat.le_trans hn hn2
  refine sq.e (AWp.rowV (l := _) pok ?_)
  refine sq.op rfl rfl (Does.store (k := 1) (xs := [.slice none (0) (0)]) (cs' := [.slice none (0) (0)]) hf (by kernel_rfl) rfl rfl rfl hp rfl rfl (Nat.le_of_ble_eq_true rfl) rfl) ?_
  rintro _ h10 n11 ⟨rfl, hb9⟩ s12 hn2 hf
  refine sq.w0 ?_
  have hq := s12.get1 (Ne.symm hpq) hq
  have hs := hs.at (by simp) s12
  have hn := Nat.le_trans hn hn2
  refine sq.op rfl rfl (Does.store (k := 1) (xs := [.int .i64 (4)]) (cs' := [.int .i64 (4)]) hf (by kernel_rfl) rfl rfl rfl hq rfl rfl (Nat.le_of_ble_eq_true rfl) rfl) ?_
  rintro _ h14 n15 ⟨rfl, hb13⟩ s16 hn2 hf
  refine sq.w0 ?_
  have hb9 := s16.get1 (hpq) hb9
  have hs := hs.at (by simp) s16
  have hn := Nat.le_trans hn hn2
  refine sq.e ?_
  refine ⟨rfl, [], rfl, ?_⟩
  exact ⟨⟨_, rfl⟩, rfl, hs, hn, hf, hb9, hb13⟩
def parB (s : ByteArray) : List Lab × Int := match parP s.data.toList with
  | some ls => (ls, 0)
  | none => ([], 4)
theorem res_cells2 {P : Program} {vs : List Value} {ds : List Deferred} {h : Heap} {a b : Tmp} {t u : TypeId} {x y : Value} (hx : loadE P t (getV vs a) h = some x) (hy : loadE P u (getV vs b) h = some y) : resultsE P (frameD vs ds) h [.cell a t, .cell b u] = some [x, y] := by
  have e1 : resultE P (frameD vs ds) h (.cell a t) = some x := by
    show loadE P t ((frameD vs ds).get a) h = some x
    rw [show (frameD vs ds).get a = getV vs a from frameV_get vs a]; exact hx
  have e2 : resultE P (frameD vs ds) h (.cell b u) = some y := by
    show loadE P u ((frameD vs ds).get b) h = some y
    rw [show (frameD vs ds).get b = getV vs b from frameV_get vs b]; exact hy
  simp only [resultsE, e1, e2]
theorem sub_fresh2 {h h1 h2 : Heap} {S : List Nat} {p q : Nat} (a : SubBut h h1 S) (hp : h.get p = none) (hq : h.get q = none) (c : SubBut h1 h2 [p, q]) : SubBut h h2 S := fun x o hx e => by
  refine c x o ?_ (a x o hx e)
  intro hm
  rcases List.mem_cons.1 hm with rfl | hm
  · rw [hp] at e; cases e
  · rw [List.mem_singleton] at hm; subst hm; rw [hq] at e; cases e
theorem Makes.of_defers {P : Program} (ok : POk P) {f : FuncId} {fn : Func} {c : Code} {args vs : List Value} {h : Heap} {n : Nat} {S : List Nat} {R : Value → Heap → Nat → Prop} {k : Nat} (hf : P.funcs[f]? = some fn) (hb : fn.body = some c) (hk : (frameOf args fn.ntmps).size = k) (hv : valsOf (frameOf args fn.ntmps) k = vs)
    (q : AWp P c (bodyAD P fn fun r h' n' => ∃ v, r = .ret v ∧ SubBut h h' S ∧ n ≤ n' ∧ R v h' n') (frameV vs) h n) : Makes P f args h n S R :=
  ACall.of_body_defers ok hf hb (AWp.norm hk rfl (by rw [hv]; exact q))
theorem f18_spec {h : Heap} {n : Nat} (s : ByteArray) (hls : s.data.toList.length < 1000000000) (hld : Laid0 h) :
    Makes Tryz.prog 18 [.string s] h n [] fun v h2 _ => ∃ (a : Option Addr) (cp : Nat), v = .tuple #[.slice a (parB s).1.length cp, .int .i64 (parB s).2] ∧ OwnRow encLab 40 h h2 (.slice a (parB s).1.length cp) (parB s).1 := by
  refine Makes.free fun hf => ?_
  have hs : SubBut h h [] := .refl _ _
  have hn : n ≤ n := Nat.le_refl _
  have hf0 := hf
  refine Makes.of_defers pok (vs := [.string s, undef, undef, undef, undef, undef, undef, undef, undef, undef, undef]) Tryz.func18 rfl rfl (by kernel_rfl) ?_
  refine AWp.seq (AWp.rowV (l := _) pok ?_)
  have zp : h.get n = none := hf0 _ hn
  refine sq.op rfl rfl (Does.alloc (cs := [.slice none 0 0]) hf (z := .slice none 0 0) (by kernel_rfl) rfl) ?_
  rintro _ h1 n1 ⟨rfl, hp⟩ s1 hn1 hf
  refine sq.w ?_
  have hs := hs.trans (s1.mono (by simp))
  have hn := Nat.le_trans hn hn1
  have hpq : n ≠ n1 := hf.ne hp
  have zq : h.get n1 = none := hf0 _ hn
  refine sq.op rfl rfl (Does.alloc (cs := [.int .i64 0]) hf (z := .int .i64 0) (by kernel_rfl) rfl) ?_
  rintro _ h2 n2 ⟨rfl, hq⟩ s2 hn2 hf
  refine sq.w ?_
  have hp := s2.sub _ _ hp
  have hs := hs.trans (s2.mono (by simp))
  have hn := Nat.le_trans hn hn2
  refine sq.e (AWp.seq (AWp.rowV (l := _) pok ?_))
  refine sq.c (v := .func (.func 42) #[] #[.pointer (some ⟨n, 0, none⟩), .pointer (some ⟨n1, 0, none⟩)]) rfl rfl rfl rfl ?_
  refine ⟨?_⟩
  rw [← frameD_nil]
  refine sd.d (ds := []) (fo := .tmp 5) (d := ⟨.fn (.func 42) #[.pointer (some ⟨n, 0, none⟩), .pointer (some ⟨n1, 0, none⟩)], #[]⟩) rfl rfl ?_ ?_
  · rfl
  refine sd.e ?_
  refine AWp.seq ?_
  refine AWp.seq_region pok ?_
  refine sd.c _ rfl rfl (v := .string s) rfl rfl ?_
  refine sd.c _ rfl rfl (v := .agg #[.string s]) (by kernel_rfl) rfl ?_
  have er1 : n ≠ n2 := hf.ne hp
  have er2 : n1 ≠ n2 := hf.ne hq
  have zr : h.get n2 = none := hf0 _ hn
  refine sd.op rfl rfl (Does.box (cs := [.string s]) hf rfl rfl) ?_
  rintro _ h3 n3 ⟨rfl, hr⟩ s3 hn3 hf
  have hp := s3.sub _ _ hp
  have hq := s3.sub _ _ hq
  have hs := hs.trans (s3.mono (by simp))
  have hn := Nat.le_trans hn hn3
  refine sd.c _ rfl rfl (v := .pointer (some ⟨n2, 0, none⟩)) rfl rfl ?_
  refine sd.e ?_
  refine AWp.seq ?_
  refine AWp.seq_region pok ?_
  refine sd.c _ rfl rfl (v := .pointer (some ⟨n2, 0, none⟩)) rfl rfl ?_
  refine sd.x (S := [n2]) rfl (CallsF.fn rfl (by kernel_rfl) rfl rfl) (f43_spec s.data.toList hr hls (hld.keep hs)) ?_ ?_
  · intro h4 n4 T_ s4 hn4 hf
    have hp := s4.get1 er1 hp
    have hq := s4.get1 er2 hq
    have hs := hs.fresh zr s4
    have hn := Nat.le_trans hn hn4
    have hB : parB s = ([], 4) := by unfold parB; rw [T_]
    rw [hB]
    refine ⟨by kernel_rfl, ACallD.mono (f42_pend hp hq hpq) ?_⟩
    rintro r m' h5 n5 _ ⟨⟨u, rfl⟩, rfl, s5, hn5, hf, hp, hq⟩
    refine ⟨_, res_cells2 (ld1 (p := 0) (v := .slice none 0 0) (by kernel_rfl) (by kernel_rfl) hp rfl) (ld1 (p := 0) (v := .int .i64 4) (by kernel_rfl) (by kernel_rfl) hq rfl), _, rfl, sub_fresh2 hs zp zq s5, Nat.le_trans hn hn5, none, 0, rfl, OwnRow.nil⟩
  · rintro v h4 n4 ⟨ls, a, cp, hpar, rfl, R⟩ s4 hn4 hf
    have hB : parB s = (ls, 0) := by unfold parB; rw [hpar]
    rw [hB]
    have dp : ∀ c ∈ blkOf (.slice a ls.length cp), c ≠ n := fun c hc e => R.ne hp c hc (List.mem_singleton.2 e)
    have dq : ∀ c ∈ blkOf (.slice a ls.length cp), c ≠ n1 := fun c hc e => R.ne hq c hc (List.mem_singleton.2 e)
    have R := R.from hs.sub
    have hp := s4.get1 er1 hp
    have hq := s4.get1 er2 hq
    have hs := hs.fresh zr s4
    have hn := Nat.le_trans hn hn4
    refine sd.op rfl rfl (Does.store (k := 1) (xs := [.slice a ls.length cp]) (cs' := [.slice a ls.length cp]) hf (by kernel_rfl) rfl rfl rfl hp rfl rfl (Nat.le_of_ble_eq_true rfl) rfl) ?_
    rintro _ h5 n5 ⟨rfl, hp⟩ s5 hn5 hf
    have R := R.but s5 (fun c hc hm => dp c hc (List.mem_singleton.1 hm))
    have hq := s5.get1 (Ne.symm hpq) hq
    have hs := hs.fresh zp s5
    have hn := Nat.le_trans hn hn5
    refine sd.op rfl rfl (Does.store (k := 1) (xs := [.int .i64 0]) (cs' := [.int .i64 0]) hf (by kernel_rfl) rfl rfl rfl hq rfl rfl (Nat.le_of_ble_eq_true rfl) rfl) ?_
    rintro _ h6 n6 ⟨rfl, hq⟩ s6 hn6 hf
    have R := R.but s6 (fun c hc hm => dq c hc (List.mem_singleton.1 hm))
    have hp := s6.get1 hpq hp
    have hs := hs.fresh zq s6
    have hn := Nat.le_trans hn hn6
    refine sd.e ?_
    refine AWp.ret ?_
    refine ⟨by kernel_rfl, ACallD.mono (f42_calm hp hq hpq) ?_⟩
    rintro r m' h7 n7 _ ⟨⟨u, rfl⟩, rfl, s7, hn7, hf, hp, hq⟩
    have R := R.but s7 (fun c hc hm => by
      rcases List.mem_cons.1 hm with e | hm
      · exact dp c hc e
      · exact dq c hc (List.mem_singleton.1 hm))
    exact ⟨_, res_cells2 (ld1 (p := 0) (v := .slice a ls.length cp) (by kernel_rfl) (by kernel_rfl) hp rfl) (ld1 (p := 0) (v := .int .i64 0) (by kernel_rfl) (by kernel_rfl) hq rfl), _, rfl, sub_fresh2 hs zp zq s7, Nat.le_trans hn hn7, _, _, rfl, R⟩
def hexCh (n : Nat) : UInt8 := hexS.data.toList.getD n 0
def hexL (n : Nat) : List UInt8 := if n < 16 then [hexCh n] else hexL (n / 16) ++ [hexCh (n % 16)]
theorem hexL_lt {n : Nat} (h : n < 16) : hexL n = [hexCh n] := by rw [hexL, if_pos h]
theorem hexL_ge {n : Nat} (h : 16 ≤ n) : hexL n = hexL (n / 16) ++ [hexCh (n % 16)] := by rw [hexL, if_neg (by omega)]
theorem hexL_len : ∀ (k n : Nat), n < 16 ^ (k + 1) → 1 ≤ (hexL n).length ∧ (hexL n).length ≤ k + 1 := by
  intro k
  induction k with
  | zero => intro n h; rw [hexL_lt (by simpa using h)]; simp
  | succ k ih =>
    intro n h
    by_cases c : n < 16
    · rw [hexL_lt c]; simp
    · have := ih (n / 16) (by rw [Nat.div_lt_iff_lt_mul (by decide), ← Nat.pow_succ]; exact h)
      rw [hexL_ge (by omega), List.length_append, List.length_singleton]
      omega
theorem hexL_eight {n : Nat} (h : n < 4294967296) : 1 ≤ (hexL n).length ∧ (hexL n).length ≤ 8 := hexL_len 7 n (by omega)
def tabH : Tab := [(107, [.int .i64 16], .bool true), (108, [.int .u64 16], .int .i64 4)]
theorem tabH_run (c : Nat → CI) : tabB Tryz.prog plans (tabOv laidL []) (laidHeap c laidL) tabH = true := by kernel_rfl
theorem tabH_ok : TabOk Tryz.prog laidL tabH := TabOk.of_run pok plans_ok laidL_lt .nil tabH_run
theorem f107_spec {h : Heap} {n : Nat} (hl : Laid0 h) : Tells Tryz.prog 107 [.int .i64 16] h n (.bool true) := by
  obtain ⟨c, hs⟩ := hl
  have := ACall.frame (P := Tryz.prog) (n := n) (laidHeap_ro c laidL_lt) hs (args := [.int .i64 16]) rfl (v := .bool true) rfl ((tabH_ok _ (List.mem_cons_self ..)).2.2 c)
  exact this.mono fun _ h' _ hn _ ⟨a, b, _⟩ => ⟨h', Heap.sub_refl _, a, b, hn⟩
theorem f108_spec {h : Heap} {n : Nat} (hl : Laid0 h) : Tells Tryz.prog 108 [.int .u64 16] h n (.int .i64 4) := by
  obtain ⟨c, hs⟩ := hl
  have := ACall.frame (P := Tryz.prog) (n := n) (laidHeap_ro c laidL_lt) hs (args := [.int .u64 16]) rfl (v := .int .i64 4) rfl ((tabH_ok _ (List.mem_cons_of_mem _ (List.mem_singleton.2 rfl))).2.2 c)
  exact this.mono fun _ h' _ hn _ ⟨a, b, _⟩ => ⟨h', Heap.sub_refl _, a, b, hn⟩
theorem ofInt64 (n : Nat) : BitVec.ofInt 64 (n : Int) = BitVec.ofNat 64 n := by simp
theorem and15 : ∀ n : Nat, n &&& 15 = n % 16 := fun n => Nat.and_two_pow_sub_one_eq_mod n 4
theorem and_15 {u : Int} (h0 : 0 ≤ u) (h1 : u < 18446744073709551616) {t : TypeId} {c d : Bool} : binE Tryz.prog .and t c d (.int .u64 u) (.int .u64 15) = some (.int .u64 (u % 16)) := by
  obtain ⟨y, rfl⟩ : ∃ y : Nat, u = y := ⟨u.toNat, by omega⟩
  have e : (BitVec.ofInt IntKind.u64.bits (y : Int) &&& BitVec.ofInt IntKind.u64.bits ((15 : Nat) : Int)).toNat = y % 16 := by
    show (BitVec.ofInt 64 (y : Int) &&& BitVec.ofInt 64 ((15 : Nat) : Int)).toNat = _
    rw [ofInt64, ofInt64, BitVec.toNat_and, BitVec.toNat_ofNat, BitVec.toNat_ofNat, Nat.mod_eq_of_lt (by omega), Nat.mod_eq_of_lt (by omega), and15]
  show some (Value.int .u64 (IntKind.u64.wrap _)) = _
  rw [show (15 : Int) = ((15 : Nat) : Int) from rfl, e, wrap_u64 (by omega) (by omega)]
  rfl
theorem dig_at {s : ByteArray} {t : TypeId} {u : Int} {k : IntKind} (hu : Tryz.prog.underlying t = some .string) (h0 : 0 ≤ u) (h1 : u < 16) (hs : s.data.toList.take 16 = hexS.data.toList) : indexE Tryz.prog t (.string s) (.int k u) = some (.int .u8 ((hexCh u.toNat).toNat : Int)) := by
  have hl : 16 ≤ s.data.toList.length := by
    have := congrArg List.length hs
    rw [List.length_take] at this
    have h2 : hexS.data.toList.length = 16 := rfl
    omega
  rw [index_str hu h0 (by omega)]
  congr 2
  unfold bt hexCh
  rw [← hs, List.getD_eq_getElem?_getD, List.getElem?_take, if_pos (by omega)]
theorem arr_at {t e : TypeId} {len b : Nat} {i : Int} (hu : Tryz.prog.underlying t = some (.array len e)) (he : (Tryz.prog.info? e).map (·.size) = some 1) (h0 : 0 ≤ i) (h1 : i < (len : Nat)) {k : IntKind} : indexAddrE Tryz.prog t (.pointer (some ⟨b, 0, none⟩)) (.int k i) = some (.pointer (some ⟨b, i.toNat, none⟩)) := by
  cases h40 : Tryz.prog.info? e with
  | none => rw [h40] at he; cases he
  | some inf =>
    rw [h40] at he
    simp only [Option.map_some, Option.some.injEq] at he
    simp only [indexAddrE, hu, h40, he]
    rw [if_pos ⟨h0, h1⟩]
    congr 4
    omega
theorem arr_from {t e : TypeId} {len b : Nat} {i : Int} (hu : Tryz.prog.underlying t = some (.array len e)) (he : (Tryz.prog.info? e).map (·.size) = some 1) (h0 : 0 ≤ i) (h1 : i < (len : Nat)) (hU : len < U) {k : IntKind} {h : Heap} : sliceE Tryz.prog t (.pointer (some ⟨b, 0, none⟩)) (some (.int k i)) none none h = some (.slice (some ⟨b, i.toNat, none⟩) (len - i.toNat) (len - i.toNat)) := by
  cases h40 : Tryz.prog.info? e with
  | none => rw [h40] at he; cases he
  | some inf =>
    rw [h40] at he
    simp only [Option.map_some, Option.some.injEq] at he
    have hb : boundsE len len (some (.int k i)) none none = some (i.toNat, len, none) := by
      simp only [boundsE, boundE]
      rw [if_pos ⟨h0, by omega⟩]
    simp only [sliceE, hu, h40, hb, he]
    rw [if_pos hU]
    by_cases c : len = i.toNat
    · omega
    · rw [Option.getD_none, if_neg c]
      congr 4
      omega
theorem set_drop {zs : List UInt8} {i : Nat} {b : UInt8} (h : i < zs.length) : (zs.set i b).drop i = b :: zs.drop (i + 1) := by
  rw [List.drop_set, if_neg (by omega), Nat.sub_self, List.drop_eq_getElem_cons h]
  rfl
theorem f97_spec {h : Heap} {n : Nat} (u0 : Int) (h0 : 0 ≤ u0) (h1 : u0 < 4294967296) (hld : Laid0 h) :
    Tells Tryz.prog 97 [.slice none (0) (0), .int .u64 (u0), .int .i64 (16), .bool false, .bool false] h n (.tuple #[.slice none 0 0, .string (strB (hexL u0.toNat))]) := by
  refine Makes.tells (Makes.free fun hf => ?_)
  have hl8 := hexL_eight (n := u0.toNat) (by omega)
  have hs : SubBut h h ([]) := .refl _ _
  have hn : n ≤ n := Nat.le_refl _
  have hf0 := hf
  refine Makes.of_bodyV (args := [.slice none (0) (0), .int .u64 (u0), .int .i64 (16), .bool false, .bool false]) (vs := [.slice none (0) (0), .int .u64 (u0), .int .i64 (16), .bool false, .bool false, undef, undef, undef, undef, undef, undef, undef, undef, undef, undef, undef, undef, undef, undef, undef, undef, undef, undef, undef, undef, undef, undef, undef, undef, undef, undef, undef, undef, undef, undef, undef, undef, undef, undef, undef, undef, undef, undef, undef, undef, undef, undef, undef, undef, undef, undef, undef, undef, undef, undef, undef, undef, undef, undef, undef, undef, undef, undef, undef, undef, undef, undef, undef, undef, undef, undef, undef, undef, undef, undef, undef, undef, undef, undef, undef, undef, undef, undef, undef, undef, undef, undef, undef, undef, undef, undef, undef, undef, undef, undef, undef, undef, undef, undef, undef, undef, undef]) Tryz.func97 rfl rfl ?_
  refine AWp.seq (AWp.rowV (l := _) pok ?_)
  refine sq.c (v := .slice none (0) (0)) rfl rfl rfl rfl ?_
  refine sq.c (v := .string (⟨#[]⟩)) rfl rfl rfl rfl ?_
  refine sq.e (AWp.seq (AWp.seq (AWp.rowV (l := _) pok ?_)))
  refine sq.c (v := .int .i64 (16)) rfl rfl rfl rfl ?_
  refine sq.c (v := .bool false) rfl rfl rfl rfl ?_
  refine sq.c (v := .bool false) rfl rfl rfl rfl ?_
  refine sq.c (v := .int .i64 (16)) (wantT (g := 2) (d := 21) rfl rfl rfl) rfl rfl rfl ?_
  refine sq.c (v := .bool false) (wantT (g := 2) (d := 21) rfl rfl rfl) rfl rfl rfl ?_
  refine sq.c (v := .bool false) rfl rfl rfl rfl ?_
  refine sq.c (v := .bool false) rfl rfl rfl rfl ?_
  refine sq.c (v := .int .i64 (16)) (wantT (g := 6) (d := 25) rfl rfl rfl) rfl rfl rfl ?_
  refine sq.c (v := .bool false) (wantT (g := 6) (d := 25) rfl rfl rfl) rfl rfl rfl ?_
  refine sq.c (v := .bool false) rfl rfl rfl rfl ?_
  refine sq.e ?_
  refine AWp.condF rfl rfl ?_
  refine AWp.skip (AWp.seq (AWp.rowV (l := _) pok ?_))
  have z_n : h.get n = none := hf0 _ hn
  refine sq.op rfl rfl (Does.alloc (cs := [.int .u8 (0), .int .u8 (0), .int .u8 (0), .int .u8 (0), .int .u8 (0), .int .u8 (0), .int .u8 (0), .int .u8 (0), .int .u8 (0), .int .u8 (0), .int .u8 (0), .int .u8 (0), .int .u8 (0), .int .u8 (0), .int .u8 (0), .int .u8 (0), .int .u8 (0), .int .u8 (0), .int .u8 (0), .int .u8 (0), .int .u8 (0), .int .u8 (0), .int .u8 (0), .int .u8 (0), .int .u8 (0), .int .u8 (0), .int .u8 (0), .int .u8 (0), .int .u8 (0), .int .u8 (0), .int .u8 (0), .int .u8 (0), .int .u8 (0), .int .u8 (0), .int .u8 (0), .int .u8 (0), .int .u8 (0), .int .u8 (0), .int .u8 (0), .int .u8 (0), .int .u8 (0), .int .u8 (0), .int .u8 (0), .int .u8 (0), .int .u8 (0), .int .u8 (0), .int .u8 (0), .int .u8 (0), .int .u8 (0), .int .u8 (0), .int .u8 (0), .int .u8 (0), .int .u8 (0), .int .u8 (0), .int .u8 (0), .int .u8 (0), .int .u8 (0), .int .u8 (0), .int .u8 (0), .int .u8 (0), .int .u8 (0), .int .u8 (0), .int .u8 (0), .int .u8 (0), .int .u8 (0)]) hf (z := .agg #[.int .u8 (0), .int .u8 (0), .int .u8 (0), .int .u8 (0), .int .u8 (0), .int .u8 (0), .int .u8 (0), .int .u8 (0), .int .u8 (0), .int .u8 (0), .int .u8 (0), .int .u8 (0), .int .u8 (0), .int .u8 (0), .int .u8 (0), .int .u8 (0), .int .u8 (0), .int .u8 (0), .int .u8 (0), .int .u8 (0), .int .u8 (0), .int .u8 (0), .int .u8 (0), .int .u8 (0), .int .u8 (0), .int .u8 (0), .int .u8 (0), .int .u8 (0), .int .u8 (0), .int .u8 (0), .int .u8 (0), .int .u8 (0), .int .u8 (0), .int .u8 (0), .int .u8 (0), .int .u8 (0), .int .u8 (0), .int .u8 (0), .int .u8 (0), .int .u8 (0), .int .u8 (0), .int .u8 (0), .int .u8 (0), .int .u8 (0), .int .u8 (0), .int .u8 (0), .int .u8 (0), .int .u8 (0), .int .u8 (0), .int .u8 (0), .int .u8 (0), .int .u8 (0), .int .u8 (0), .int .u8 (0), .int .u8 (0), .int .u8 (0), .int .u8 (0), .int .u8 (0), .int .u8 (0), .int .u8 (0), .int .u8 (0), .int .u8 (0), .int .u8 (0), .int .u8 (0), .int .u8 (0)]) (by kernel_rfl) rfl) ?_
  rintro _ h2 n3 ⟨rfl, hb1⟩ s4 hn2 hf
  refine sq.w ?_
  have hs := hs.trans s4
  have hn := Nat.le_trans hn hn2
  refine sq.e (AWp.seq (AWp.rowV (l := _) pok ?_))
  refine sq.c (v := .int .i64 (65)) rfl rfl rfl rfl ?_
  refine sq.e (AWp.seq (AWp.seq (AWp.rowV (l := _) pok ?_)))
  refine sq.c (v := .bool false) rfl rfl rfl rfl ?_
  refine sq.e ?_
  refine AWp.condF rfl rfl ?_
  refine AWp.skip (AWp.seq (AWp.seq (AWp.rowV (l := _) pok ?_)))
  refine sq.c (v := .int .i64 (16)) rfl rfl rfl rfl ?_
  refine sq.t (v := .bool true) rfl (CallsF.fn rfl (by kernel_rfl) rfl rfl) (fun hf => f107_spec (hld.keep hs)) hf rfl ?_
  intro n5 hn2 hf
  have hn := Nat.le_trans hn hn2
  refine sq.e ?_
  refine AWp.condT rfl rfl ?_
  refine AWp.seq (AWp.rowV (l := _) pok ?_)
  refine sq.c (v := .int .i64 (16)) rfl rfl rfl rfl ?_
  refine sq.c (v := .int .u64 (16)) rfl rfl (by kernel_rfl) rfl ?_
  refine sq.t (v := .int .i64 (4)) rfl (CallsF.fn rfl (by kernel_rfl) rfl rfl) (fun hf => f108_spec (hld.keep hs)) hf rfl ?_
  intro n6 hn2 hf
  have hn := Nat.le_trans hn hn2
  refine sq.c (v := .int .u64 (4)) rfl rfl (by kernel_rfl) rfl ?_
  refine sq.c (v := .int .u64 (4)) rfl rfl rfl rfl ?_
  refine sq.e (AWp.seq (AWp.rowV (l := _) pok ?_))
  refine sq.c (v := .int .i64 (16)) rfl rfl rfl rfl ?_
  refine sq.c (v := .int .u64 (16)) rfl rfl (by kernel_rfl) rfl ?_
  refine sq.c (v := .int .u64 (16)) rfl rfl rfl rfl ?_
  refine sq.e (AWp.seq (AWp.rowV (l := _) pok ?_))
  refine sq.c (v := .int .i64 (16)) rfl rfl rfl rfl ?_
  refine sq.c (v := .int .u64 (16)) rfl rfl (by kernel_rfl) rfl ?_
  refine sq.c (v := .int .u64 (15)) rfl rfl rfl rfl ?_
  refine sq.c (v := .int .u64 (15)) rfl rfl rfl rfl ?_
  refine sq.e (AWp.seq (AWp.block ?_))
  have hbz : h2.get n = some (.cells (encByte.row (List.replicate 65 0)) true ⟨123, 0, true⟩) := hb1
  refine AWp.loopV (fun d vs h8 n9 => ∃ (i u : Int) (zs : List UInt8), d = u.toNat ∧ SubBut h h8 ([]) ∧ n ≤ n9 ∧ Free h8 n9 ∧ h8.get n = some (.cells (encByte.row zs) true ⟨123, 0, true⟩) ∧ (0 ≤ i) ∧ (i ≤ 65) ∧ (0 ≤ u) ∧ (u < 4294967296) ∧ (zs.length = 65) ∧ (hexL u0.toNat = hexL u.toNat ++ zs.drop i.toNat) ∧ ∃ y7 : Nat → Value, vs = [.slice none (0) (0), .int .u64 (u), .int .i64 (16), .bool false, .bool false, undef, undef, undef, undef, undef, .slice none (0) (0), .string (⟨#[]⟩), .pointer (some ⟨n, 0, none⟩), .int .i64 (i), .int .u64 (4), .int .u64 (16), .int .u64 (15), undef, undef, .int .i64 (16), .bool false, .bool false, .int .i64 (16), .bool false, .bool false, .bool false, .int .i64 (16), .bool false, .bool false, undef, .bool false, undef, undef, .int .i64 (16), .bool true, .int .i64 (16), .int .u64 (16), .int .i64 (4), .int .u64 (4), .int .i64 (16), .int .u64 (16), .int .i64 (16), .int .u64 (16), .int .u64 (15), (y7 44), (y7 45), (y7 46), (y7 47), (y7 48), (y7 49), (y7 50), (y7 51), (y7 52), (y7 53), (y7 54), (y7 55), (y7 56), (y7 57), undef, undef, undef, undef, undef, undef, undef, undef, undef, undef, undef, undef, undef, undef, undef, undef, undef, undef, undef, undef, undef, undef, undef, undef, undef, undef, undef, undef, undef, undef, undef, undef, undef, undef, undef, undef, undef, undef, undef, undef, undef, undef, undef, undef]) (u0.toNat) ⟨65, u0, List.replicate 65 0, rfl, hs, hn, hf, hbz, (by omega), (by omega), (by omega), (by omega), (rfl), (by rw [show (65 : Int).toNat = 65 from rfl, show (List.replicate 65 (0 : UInt8)).drop 65 = [] from rfl, List.append_nil]), getV [undef, undef, undef, undef, undef, undef, undef, undef, undef, undef, undef, undef, undef, undef, undef, undef, undef, undef, undef, undef, undef, undef, undef, undef, undef, undef, undef, undef, undef, undef, undef, undef, undef, undef, undef, undef, undef, undef, undef, undef, undef, undef, undef, undef, undef, undef, undef, undef, undef, undef, undef, undef, undef, undef, undef, undef, undef, undef], rfl⟩ ?_
  rintro d vs h8 n9 ⟨i, u, zs, rfl, hs, hn, hf, hbz, hi0, hi1, hu0, hu1, hzs, hq, y7, rfl⟩
  have hll := congrArg List.length hq
  rw [List.length_append, List.length_drop] at hll
  have hlu := hexL_eight (n := u.toNat) (by omega)
  refine AWp.seq (AWp.seq (AWp.rowV (l := _) pok ?_))
  refine sq.c (v := .int .u64 (u)) rfl rfl rfl rfl ?_
  refine sq.c (v := .int .u64 (16)) rfl rfl rfl rfl ?_
  refine sq.c (v := .bool (decide ((16 : Int) ≤ u))) rfl rfl rfl rfl ?_
  refine sq.e ?_
  by_cases c11_2 : (16 : Int) ≤ u
  · rw [decide_eq_true c11_2]
    refine AWp.condT rfl rfl ?_
    refine AWp.skip (AWp.block (AWp.seq (AWp.rowV (l := _) pok ?_)))
    refine sq.c (v := .int .i64 (i)) rfl rfl rfl rfl ?_
    refine sq.c (v := .int .i64 (i - 1)) rfl rfl (okI (wrap_i64 (by omega) (by omega))) rfl ?_
    refine sq.c (v := .int .i64 (i - 1)) rfl rfl rfl rfl ?_
    refine sq.e (AWp.seq (AWp.rowV (l := _) pok ?_))
    refine sq.c (v := .int .i64 (i - 1)) rfl rfl rfl rfl ?_
    refine sq.c (v := .int .u64 (u)) rfl rfl rfl rfl ?_
    refine sq.c (v := .int .u64 (15)) rfl rfl rfl rfl ?_
    refine sq.c (v := .int .u64 (u % 16)) rfl rfl (and_15 (t := 93) (c := false) (d := false) (by omega) (by omega)) rfl ?_
    refine sq.c (v := .int .u8 (((hexCh (u % 16).toNat).toNat : Int))) rfl rfl (dig_at (s := ⟨#[48, 49, 50, 51, 52, 53, 54, 55, 56, 57, 97, 98, 99, 100, 101, 102, 103, 104, 105, 106, 107, 108, 109, 110, 111, 112, 113, 114, 115, 116, 117, 118, 119, 120, 121, 122]⟩) (t := 9) (u := u % 16) (k := .u64) (by kernel_rfl) (by omega) (by omega) (by rfl)) rfl ?_
    refine sq.c (v := .pointer (some ⟨n, (i - 1).toNat, none⟩)) rfl rfl (arr_at (t := 123) (len := 65) (e := 5) (b := n) (i := i - 1) (k := .i64) (by kernel_rfl) (by kernel_rfl) (by omega) (by omega)) rfl ?_
    refine sq.op rfl rfl (Does.store (k := 1) (xs := encByte.cells (hexCh (u % 16).toNat)) (cs' := encByte.row (zs.set (i - 1).toNat (hexCh (u % 16).toNat))) hf (by kernel_rfl) rfl rfl rfl hbz rfl rfl (by rw [encByte.row_length]; show (i - 1).toNat + 1 ≤ 1 * (zs).length; omega) (by have := encByte.row_set zs (i - 1).toNat (hexCh (u % 16).toNat) (by omega); rw [show encByte.k = 1 from rfl, Nat.one_mul] at this; exact this)) ?_
    rintro _ h11 n12 ⟨rfl, hb10⟩ s13 hn2 hf
    refine sq.w0 ?_
    have hs := hs.fresh z_n s13
    have hn := Nat.le_trans hn hn2
    refine sq.e (AWp.rowV (l := _) pok ?_)
    refine sq.c (v := .int .u64 (u)) rfl rfl rfl rfl ?_
    refine sq.c (v := .int .u64 (4)) rfl rfl rfl rfl ?_
    refine sq.c (v := .int .u64 (u / 16)) rfl rfl (okI (shr_lit (by rfl) (by decide))) rfl ?_
    refine sq.c (v := .int .u64 (u / 16)) rfl rfl rfl rfl ?_
    refine sq.e ?_
    have h16 : 2 ≤ (hexL u.toNat).length := by rw [hexL_ge (n := u.toNat) (by omega), List.length_append, List.length_singleton]; have := hexL_eight (n := u.toNat / 16) (by omega); omega
    refine ⟨_, _, rfl, by omega, i - 1, u / 16, (zs.set (i - 1).toNat (hexCh (u % 16).toNat)), rfl, hs, hn, hf, hb10, (by omega), (by omega), (by omega), (by omega), (by rw [List.length_set]; exact hzs), (by rw [hq, hexL_ge (n := u.toNat) (by omega), List.append_assoc, set_drop (by omega), show (i - 1).toNat + 1 = i.toNat by omega, show (u / 16).toNat = u.toNat / 16 by omega, show (u % 16).toNat = u.toNat % 16 by omega]; rfl), getV [undef, undef, undef, undef, undef, undef, undef, undef, undef, undef, undef, undef, undef, undef, undef, undef, undef, undef, undef, undef, undef, undef, undef, undef, undef, undef, undef, undef, undef, undef, undef, undef, undef, undef, undef, undef, undef, undef, undef, undef, undef, undef, undef, undef, .int .u64 (u), .int .u64 (16), .bool true, .int .i64 (i), .int .i64 (i - 1), .int .i64 (i - 1), .int .u64 (u), .int .u64 (15), .int .u64 (u % 16), .int .u8 (((hexCh (u % 16).toNat).toNat : Int)), .pointer (some ⟨n, (i - 1).toNat, none⟩), .int .u64 (u), .int .u64 (4), .int .u64 (u / 16)], rfl⟩
  · rw [decide_eq_false c11_2]
    refine AWp.condF rfl rfl ?_
    refine AWp.exit ?_
    refine AWp.seq (AWp.rowV (l := _) pok ?_)
    refine sq.c (v := .int .i64 (i)) rfl rfl rfl rfl ?_
    refine sq.c (v := .int .i64 (i - 1)) rfl rfl (okI (wrap_i64 (by omega) (by omega))) rfl ?_
    refine sq.c (v := .int .i64 (i - 1)) rfl rfl rfl rfl ?_
    refine sq.e (AWp.rowV (l := _) pok ?_)
    refine sq.c (v := .int .i64 (i - 1)) rfl rfl rfl rfl ?_
    refine sq.c (v := .int .u64 (u)) rfl rfl rfl rfl ?_
    refine sq.c (v := .int .u8 (((hexCh (u).toNat).toNat : Int))) rfl rfl (dig_at (s := ⟨#[48, 49, 50, 51, 52, 53, 54, 55, 56, 57, 97, 98, 99, 100, 101, 102, 103, 104, 105, 106, 107, 108, 109, 110, 111, 112, 113, 114, 115, 116, 117, 118, 119, 120, 121, 122]⟩) (t := 9) (u := u) (k := .u64) (by kernel_rfl) (by omega) (by omega) (by rfl)) rfl ?_
    refine sq.c (v := .pointer (some ⟨n, (i - 1).toNat, none⟩)) rfl rfl (arr_at (t := 123) (len := 65) (e := 5) (b := n) (i := i - 1) (k := .i64) (by kernel_rfl) (by kernel_rfl) (by omega) (by omega)) rfl ?_
    refine sq.op rfl rfl (Does.store (k := 1) (xs := encByte.cells (hexCh (u).toNat)) (cs' := encByte.row (zs.set (i - 1).toNat (hexCh (u).toNat))) hf (by kernel_rfl) rfl rfl rfl hbz rfl rfl (by rw [encByte.row_length]; show (i - 1).toNat + 1 ≤ 1 * (zs).length; omega) (by have := encByte.row_set zs (i - 1).toNat (hexCh (u).toNat) (by omega); rw [show encByte.k = 1 from rfl, Nat.one_mul] at this; exact this)) ?_
    rintro _ h15 n16 ⟨rfl, hb14⟩ s17 hn2 hf
    refine sq.w0 ?_
    have hs := hs.fresh z_n s17
    have hn := Nat.le_trans hn hn2
    refine sq.e (AWp.seq (AWp.seq (AWp.rowV (l := _) pok ?_)))
    refine sq.c (v := .bool false) rfl rfl rfl rfl ?_
    refine sq.e ?_
    refine AWp.condF rfl rfl ?_
    refine AWp.skip (AWp.seq (AWp.seq (AWp.rowV (l := _) pok ?_)))
    refine sq.c (v := .bool false) rfl rfl rfl rfl ?_
    refine sq.e ?_
    refine AWp.condF rfl rfl ?_
    refine AWp.skip (AWp.seq (AWp.rowV (l := _) pok ?_))
    refine sq.c (v := .int .i64 (i - 1)) rfl rfl rfl rfl ?_
    refine sq.c (v := .slice (some ⟨n, (i - 1).toNat, none⟩) (65 - (i - 1).toNat) (65 - (i - 1).toNat)) rfl rfl (arr_from (h := h15) (t := 123) (len := 65) (e := 5) (b := n) (i := i - 1) (k := .i64) (by kernel_rfl) (by kernel_rfl) (by omega) (by omega) (by unfold U; omega)) rfl ?_
    have hzl : ((zs.set (i - 1).toNat (hexCh (u).toNat))).length = 65 := by rw [List.length_set]; omega
    have hfin : hexL u0.toNat = ((zs.set (i - 1).toNat (hexCh (u).toNat))).drop (i - 1).toNat := by rw [hq, hexL_lt (n := u.toNat) (by omega), show (i - 1).toNat = (i - 1).toNat from rfl, set_drop (by omega), show (i - 1).toNat + 1 = i.toNat by omega]; rfl
    have hrow : IsRow encByte h15 (.slice (some ⟨n, (i - 1).toNat, none⟩) (65 - (i - 1).toNat) (65 - (i - 1).toNat)) (hexL u0.toNat) := .inr ⟨n, (i - 1).toNat, 65 - (i - 1).toNat, _, _, _, by rw [hfin, List.length_drop, hzl], by rw [hfin, List.length_drop, hzl]; exact Nat.le_refl _, hb14, by rw [hfin]; have := encByte.row_drop ((zs.set (i - 1).toNat (hexCh (u).toNat))) (i - 1).toNat; rw [show encByte.k = 1 from rfl, Nat.one_mul] at this; rw [this, show encByte.k = 1 from rfl, Nat.one_mul]; exact List.take_of_length_le (by rw [encByte.row_length]; show 1 * _ ≤ _; omega), by rw [encByte.row_length, show encByte.k = 1 from rfl, hzl, hfin, List.length_drop, hzl]; omega⟩
    refine sq.c (v := .string (strB (hexL u0.toNat))) rfl rfl (strOf_row (P := Tryz.prog) (a := 42) (b := 9) (e := 5) (by kernel_rfl) (by kernel_rfl) (by kernel_rfl) (by kernel_rfl) hrow) rfl ?_
    refine sq.c (v := .string (strB (hexL u0.toNat))) rfl rfl rfl rfl ?_
    refine sq.e ?_
    refine AWp.ret ?_
    refine ⟨rfl, [.slice none (0) (0), .string (strB (hexL u0.toNat))], rfl, .tuple #[.slice none (0) (0), .string (strB (hexL u0.toNat))], rfl, hs, hn, ?_⟩
    rfl
theorem f83_spec {h : Heap} {n : Nat} (u0 : Int) (h0 : 0 ≤ u0) (h1 : u0 < 4294967296) (hld : Laid0 h) :
    Tells Tryz.prog 83 [.int .i64 (u0), .int .i64 (16)] h n (.string (strB (hexL u0.toNat))) := by
  refine Makes.tells (Makes.free fun hf => ?_)
  have hs : SubBut h h ([]) := .refl _ _
  have hn : n ≤ n := Nat.le_refl _
  have hf0 := hf
  refine Makes.of_bodyV (args := [.int .i64 (u0), .int .i64 (16)]) (vs := [.int .i64 (u0), .int .i64 (16), undef, undef, undef, undef, undef, undef, undef, undef, undef, undef, undef, undef, undef, undef, undef, undef, undef, undef, undef, undef, undef, undef, undef, undef, undef, undef, undef, undef, undef, undef, undef, undef, undef, undef, undef, undef, undef, undef, undef, undef, undef, undef, undef, undef, undef, undef, undef, undef, undef, undef, undef, undef]) Tryz.func83 rfl rfl ?_
  refine AWp.seq (AWp.rowV (l := _) pok ?_)
  refine sq.c (v := .string (⟨#[]⟩)) rfl rfl rfl rfl ?_
  refine sq.e (AWp.seq (AWp.seq (AWp.rowV (l := _) pok ?_)))
  refine sq.c (v := .int .i64 (16)) rfl rfl rfl rfl ?_
  refine sq.c (v := .bool false) rfl rfl rfl rfl ?_
  refine sq.e ?_
  refine AWp.condF rfl rfl ?_
  refine AWp.skip (AWp.seq (AWp.rowV (l := _) pok ?_))
  refine sq.c (v := .int .i64 (u0)) rfl rfl rfl rfl ?_
  refine sq.c (v := .int .u64 (u0)) rfl rfl (Eq.trans (b := some (.int .u64 (IntKind.u64.wrap (u0)))) (by kernel_rfl) (okI (wrap_u64 (by omega) (by omega)))) rfl ?_
  refine sq.c (v := .int .i64 (16)) rfl rfl rfl rfl ?_
  refine sq.c (v := .int .i64 (u0)) rfl rfl rfl rfl ?_
  refine sq.c (v := .bool false) rfl rfl (okF (by omega)) rfl ?_
  refine sq.t (v := .tuple #[.slice none (0) (0), .string (strB (hexL u0.toNat))]) rfl (CallsF.fn rfl (by kernel_rfl) rfl rfl) (fun hf => f97_spec u0 h0 h1 (hld.keep hs)) hf rfl ?_
  intro n1 hn2 hf
  have hn := Nat.le_trans hn hn2
  refine sq.c (v := .tuple #[.slice none (0) (0), .string (strB (hexL u0.toNat))]) rfl rfl rfl rfl ?_
  refine sq.c (v := .slice none (0) (0)) rfl rfl rfl rfl ?_
  refine sq.c (v := .string (strB (hexL u0.toNat))) rfl rfl rfl rfl ?_
  refine sq.c (v := .slice none (0) (0)) rfl rfl rfl rfl ?_
  refine sq.c (v := .string (strB (hexL u0.toNat))) rfl rfl rfl rfl ?_
  refine sq.e (AWp.seq (AWp.rowV (l := _) pok ?_))
  refine sq.c (v := .string (strB (hexL u0.toNat))) rfl rfl rfl rfl ?_
  refine sq.c (v := .string (strB (hexL u0.toNat))) rfl rfl rfl rfl ?_
  refine sq.e ?_
  refine AWp.ret ?_
  refine ⟨rfl, [.string (strB (hexL u0.toNat))], rfl, .string (strB (hexL u0.toNat)), rfl, hs, hn, ?_⟩
  rfl
theorem f63_spec {h : Heap} {n : Nat} (u0 : Int) (h0 : 0 ≤ u0) (h1 : u0 < 4294967296) (hld : Laid0 h) :
    Tells Tryz.prog 63 [.int .i64 (u0), .int .i64 (16)] h n (.string (strB (hexL u0.toNat))) := by
  refine Makes.tells (Makes.free fun hf => ?_)
  have hs : SubBut h h ([]) := .refl _ _
  have hn : n ≤ n := Nat.le_refl _
  have hf0 := hf
  refine Makes.of_bodyV (args := [.int .i64 (u0), .int .i64 (16)]) (vs := [.int .i64 (u0), .int .i64 (16), undef, undef, undef, undef, undef, undef]) Tryz.func63 rfl rfl ?_
  refine AWp.seq (AWp.rowV (l := _) pok ?_)
  refine sq.c (v := .string (⟨#[]⟩)) rfl rfl rfl rfl ?_
  refine sq.e (AWp.seq (AWp.rowV (l := _) pok ?_))
  refine sq.c (v := .int .i64 (u0)) rfl rfl rfl rfl ?_
  refine sq.c (v := .int .i64 (16)) rfl rfl rfl rfl ?_
  refine sq.t (v := .string (strB (hexL u0.toNat))) rfl (CallsF.fn rfl (by kernel_rfl) rfl rfl) (fun hf => f83_spec u0 h0 h1 (hld.keep hs)) hf rfl ?_
  intro n1 hn2 hf
  have hn := Nat.le_trans hn hn2
  refine sq.c (v := .string (strB (hexL u0.toNat))) rfl rfl rfl rfl ?_
  refine sq.e ?_
  refine AWp.ret ?_
  refine ⟨rfl, [.string (strB (hexL u0.toNat))], rfl, .string (strB (hexL u0.toNat)), rfl, hs, hn, ?_⟩
  rfl
end Go.Proofs.YtkpjfibpaojelaaGreatDoor
