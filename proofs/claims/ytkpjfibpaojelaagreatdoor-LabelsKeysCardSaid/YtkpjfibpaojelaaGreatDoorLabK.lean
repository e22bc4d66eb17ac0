/- labels: Key, and what it is made of: bits.PutUvarint, bits.PutText. -/
import Derived.Test.YtkpjfibpaojelaaGreatDoorLabO
import Derived.Test.YtkpjfibpaojelaaGreatDoorAbsF
namespace Go.Proofs.YtkpjfibpaojelaaGreatDoor
open Go Go.Abs
set_option maxRecDepth 100000
set_option maxHeartbeats 4000000

theorem appByte : AppT Tryz.prog encByte 42 5 1 := ⟨by kernel_rfl, by kernel_rfl, by kernel_rfl, fun _ => rfl⟩
/-- The low eight bits. -/
def lo8 (n : Int) : UInt8 := UInt8.ofNat n.toNat
theorem wrap_lo8 {n : Int} (h : 0 ≤ n) : IntKind.u8.wrap n = ((lo8 n).toNat : Int) := by
  have e : IntKind.u8.wrap n = n % 256 := by simp [IntKind.wrap, IntKind.bits, IntKind.signed]
  rw [e]
  unfold lo8
  rw [UInt8.toNat_ofNat']
  omega
/-- The binding bit. -/
def hi8 (u : UInt8) : UInt8 := u ||| 128
theorem or_hi8 (u : UInt8) : binE Tryz.prog .or 5 false true (.int .u8 u.toNat) (.int .u8 128) = some (.int .u8 (hi8 u).toNat) := by
  have e : intE .or .u8 u.toNat 128 = some (.int .u8 (hi8 u).toNat) := by
    have hu := u.toNat_lt
    have hc : ∀ n, n < 256 → IntKind.u8.wrap ((BitVec.ofInt IntKind.u8.bits (n : Nat) ||| BitVec.ofInt IntKind.u8.bits 128).toNat) = ((n ||| 128 : Nat) : Int) := by
      have : ((List.range 256).all fun n => IntKind.u8.wrap ((BitVec.ofInt IntKind.u8.bits (n : Nat) ||| BitVec.ofInt IntKind.u8.bits 128).toNat) == ((n ||| 128 : Nat) : Int)) = true := by kernel_rfl
      intro n hn
      simpa using List.all_eq_true.1 this n (List.mem_range.2 hn)
    show some (Value.int .u8 (IntKind.u8.wrap _)) = _
    rw [hc _ hu]
    unfold hi8
    rw [UInt8.toNat_or]
    rfl
  exact e
theorem lo8_nat (n : Int) : lo8 (n.toNat : Nat) = lo8 n := by unfold lo8; rw [Int.toNat_natCast]
/-- A number, in bytes of seven bits. -/
def uvar (n : Nat) : List UInt8 := if n < 128 then [lo8 n] else hi8 (lo8 n) :: uvar (n / 128)
theorem uvar_lt {n : Int} (h : n < 128) : uvar n.toNat = [lo8 n] := by
  rw [uvar, if_pos (by omega), lo8_nat]
theorem uvar_ge {n : Int} (h : 128 ≤ n) : uvar n.toNat = hi8 (lo8 n) :: uvar (n / 128).toNat := by
  rw [uvar, if_neg (by omega), show (n / 128).toNat = n.toNat / 128 by omega, lo8_nat]
theorem uvar_pos (n : Nat) : 0 < (uvar n).length := by
  rw [uvar]; split <;> simp
theorem uvar_len : ∀ (k n : Nat), n < 128 ^ (k + 1) → (uvar n).length ≤ k + 1 := by
  intro k
  induction k with
  | zero => intro n h; rw [uvar, if_pos (by simpa using h)]; simp
  | succ k ih =>
    intro n h
    rw [uvar]
    split
    · simp
    · have := ih (n / 128) (by rw [Nat.div_lt_iff_lt_mul (by decide), ← Nat.pow_succ]; exact h)
      simp only [List.length_cons]; omega
theorem uvar_ten {n : Int} (h0 : 0 ≤ n) (h1 : n < 18446744073709551616) : (uvar n.toNat).length ≤ 10 := uvar_len 9 _ (by omega)
/-- A text, behind its length. -/
def txt (s : ByteArray) : List UInt8 := uvar s.data.toList.length ++ s.data.toList
theorem txt_len (s : ByteArray) (h : s.data.toList.length < 9223372036854775808) : (txt s).length ≤ s.data.toList.length + 10 := by
  unfold txt
  have := uvar_ten (n := s.data.toList.length) (by omega) (by omega)
  simp at this
  simp
  omega
/-- The key of labels. -/
def keyB (ls : List Lab) : List UInt8 := ls.flatMap fun x => txt x.1 ++ txt x.2
theorem keyB_step {ls : List Lab} {i : Nat} {x : Lab} (h : ls[i]? = some x) : keyB (ls.take (i + 1)) = keyB (ls.take i) ++ (txt x.1 ++ txt x.2) := by
  unfold keyB
  obtain ⟨hi, rfl⟩ := List.getElem?_eq_some_iff.1 h
  rw [List.take_succ_eq_append_getElem hi, List.flatMap_append]
  simp
theorem keyB_len (ls : List Lab) (h : ∀ x ∈ ls, x.1.data.toList.length < 5000 ∧ x.2.data.toList.length < 5000) : (keyB ls).length ≤ ls.length * 10100 := by
  induction ls with
  | nil => simp [keyB]
  | cons x r ih =>
    have h1 := h x (List.mem_cons_self ..)
    have h2 := ih fun y hy => h y (List.mem_cons_of_mem _ hy)
    have h3 := txt_len x.1 (by omega)
    have h4 := txt_len x.2 (by omega)
    unfold keyB at *
    rw [List.flatMap_cons, List.length_append, List.length_append, List.length_cons]
    omega


/-- baton/bits.PutUvarint -/
theorem f73_spec {h : Heap} {n : Nat} {a : Option Addr} {cp : Nat} (bs : List UInt8) (m : Int) (R_b : OwnRow encByte 5 (Trie.nil : Heap) h (.slice a bs.length cp) bs) (hm0 : 0 ≤ m) (hm1 : m < 18446744073709551616) (hlb : bs.length < 1000000000000) :
    Makes Tryz.prog 73 [.slice a (bs.length) cp, .int .u64 (m)] h n ((blkOf (.slice a bs.length cp))) (fun v h2 _ => OwnRow encByte 5 (Trie.nil : Heap) h2 v (bs ++ uvar m.toNat) ∧ ∀ c ∈ blkOf v, c ∈ blkOf (.slice a bs.length cp) ∨ n ≤ c) := by
  refine Makes.free fun hf => ?_
  have B_b : ∀ c ∈ blkOf (.slice a bs.length cp), c ∈ blkOf (.slice a bs.length cp) ∨ n ≤ c := fun c hc => .inl hc
  have hlm := uvar_ten hm0 hm1
  have hs : SubBut h h ((blkOf (.slice a bs.length cp))) := .refl _ _
  have hn : n ≤ n := Nat.le_refl _
  have hf0 := hf
  refine Makes.of_bodyV (args := [.slice a (bs.length) cp, .int .u64 (m)]) (vs := [.slice a (bs.length) cp, .int .u64 (m), undef, undef, undef, undef, undef, undef, undef, undef, undef, undef, undef, undef, undef, undef, undef, undef, undef, undef]) Tryz.func73 rfl rfl ?_
  refine AWp.seq ?_
  refine AWp.rowV (l := _) pok ?_
  refine sq.c (v := .slice none (0) (0)) rfl rfl rfl rfl ?_
  refine sq.e ?_
  refine AWp.seq ?_
  refine AWp.block ?_
  refine AWp.loopV (fun d vs h2 n3 => ∃ (k : Int) (zs : List UInt8) (a_b : Option Addr) (cp_b : Nat), d = k.toNat ∧ SubBut h h2 ((blkOf (.slice a bs.length cp))) ∧ n ≤ n3 ∧ Free h2 n3 ∧ OwnRow encByte 5 (Trie.nil : Heap) h2 (.slice a_b (zs).length cp_b) (zs) ∧ (∀ c ∈ blkOf (.slice a_b (zs).length cp_b), c ∈ (blkOf (.slice a bs.length cp)) ∨ n ≤ c) ∧ (0 ≤ k) ∧ (k < 18446744073709551616) ∧ (zs ++ uvar k.toNat = bs ++ uvar m.toNat) ∧ ∃ y1 : Nat → Value, vs = [.slice a_b (zs.length) cp_b, .int .u64 (k), undef, undef, .slice none (0) (0), (y1 5), (y1 6), (y1 7), (y1 8), (y1 9), (y1 10), (y1 11), (y1 12), (y1 13), (y1 14), undef, undef, undef, undef, undef]) (m.toNat) ⟨m, bs, a, cp, rfl, hs, hn, hf, R_b, B_b, (by omega), (by omega), (rfl), getV [undef, undef, undef, undef, undef, undef, undef, undef, undef, undef, undef, undef, undef, undef, undef], rfl⟩ ?_
  rintro d vs h2 n3 ⟨k, zs, a_b, cp_b, rfl, hs, hn, hf, R_b, B_b, hk0, hk1, hq, y1, rfl⟩
  have hzl : zs.length + (uvar k.toNat).length = bs.length + (uvar m.toNat).length := by rw [← List.length_append, hq, List.length_append]
  refine AWp.seq ?_
  refine AWp.seq ?_
  refine AWp.rowV (l := _) pok ?_
  refine sq.c (v := .int .u64 (k)) rfl rfl rfl rfl ?_
  refine sq.c (v := .bool (decide ((128 : Int) ≤ k))) rfl rfl rfl rfl ?_
  refine sq.e ?_
  by_cases c1_1 : (128 : Int) ≤ k
  · rw [decide_eq_true c1_1]
    refine AWp.condT rfl rfl ?_
    refine AWp.skip ?_
    refine AWp.seq ?_
    refine AWp.block ?_
    refine AWp.rowV (l := _) pok ?_
    refine sq.c (v := .slice a_b (zs.length) cp_b) rfl rfl rfl rfl ?_
    refine sq.c (v := .int .u64 (k)) rfl rfl rfl rfl ?_
    refine sq.c (v := .int .u8 (((lo8 k).toNat : Int))) rfl rfl (Eq.trans (b := some (.int .u8 (IntKind.u8.wrap (k)))) (by kernel_rfl) (okI (wrap_lo8 (by omega)))) rfl ?_
    refine sq.c (v := .int .u8 (((hi8 (lo8 k)).toNat : Int))) rfl rfl (or_hi8 _) rfl ?_
    have d_b_n3 : ∀ c ∈ blkOf (.slice a_b (zs).length cp_b), c ≠ n3 := fun c hc e => R_b.ne' (hf _ (Nat.le_refl _)) c hc (List.mem_singleton.2 e)
    have z_n3 : h.get n3 = none := hf0 _ hn
    refine sq.op rfl rfl (Does.build (e := 5) (cs := [.int .u8 (((hi8 (lo8 k)).toNat : Int))]) hf (fun _ _ => by kernel_rfl)) ?_
    rintro _ h5 n6 ⟨rfl, hb4⟩ s7 hn2 hf
    refine sq.w ?_
    have R_b := R_b.keep s7
    have hs := hs.trans (s7.mono (by simp))
    have hn := Nat.le_trans hn hn2
    have hfo := hf
    refine sq.op rfl rfl (Does.append (E := encByte) (xs := zs) (ys := [hi8 (lo8 k)]) appByte ⟨.slice 5, by kernel_rfl, fun _ q => by cases q⟩ hf (nil_sub h5 []) R_b (IsRow.of (E := encByte) (xs := [hi8 (lo8 k)]) (cap := 1) hb4 (Nat.le_refl _)) rfl rfl (by simp only [List.length_cons, List.length_nil]; omega) (by simp only [List.length_cons, List.length_nil]; omega) rfl) ?_
    rintro v11 h8 n9 ⟨R_b, _, hB12⟩ s10 hn2 hf
    have hs := hs.own B_b hf0 s10
    have B_b : ∀ c ∈ blkOf v11, c ∈ (blkOf (.slice a bs.length cp)) ∨ n ≤ c := fun c hc => (hB12 c hc).elim (B_b c) (fun q => .inr (q ▸ hn))
    refine sq.w ?_
    have dn_b_n3 : ∀ c ∈ blkOf v11, c ≠ n3 := fun c hc => (hB12 c hc).elim (fun q => d_b_n3 c q) (fun q => by rw [q]; exact (hfo.ne hb4).symm)
    have hb4 := s10 _ _ (fun hm => d_b_n3 _ hm rfl) hb4
    have d_b_n3 := dn_b_n3
    obtain ⟨a13, cp14, rfl⟩ := R_b.slice
    have hn := Nat.le_trans hn hn2
    refine sq.c (v := .slice a13 (zs ++ [hi8 (lo8 k)]).length cp14) rfl rfl rfl rfl ?_
    refine sq.e ?_
    refine AWp.rowV (l := _) pok ?_
    refine sq.c (v := .int .u64 (k)) rfl rfl rfl rfl ?_
    refine sq.c (v := .int .u64 (k / 128)) rfl rfl (okI (shr_lit (by rfl) (by decide))) rfl ?_
    refine sq.c (v := .int .u64 (k / 128)) rfl rfl rfl rfl ?_
    refine sq.e ?_
    refine ⟨_, _, rfl, by omega, k / 128, zs ++ [hi8 (lo8 k)], a13, cp14, rfl, hs, hn, hf, R_b, B_b, (by omega), (by omega), (by rw [← hq, uvar_ge (n := k) (by omega), List.append_assoc]; rfl), getV [undef, undef, undef, undef, undef, .int .u64 (k), .bool true, .int .u64 (k), .int .u64 (k / 128), .slice a_b (zs.length) cp_b, .int .u64 (k), .int .u8 (((lo8 k).toNat : Int)), .int .u8 (((hi8 (lo8 k)).toNat : Int)), .slice (some ⟨n3, 0, none⟩) (1) (1), .slice a13 (zs ++ [hi8 (lo8 k)]).length cp14], rfl⟩
  · rw [decide_eq_false c1_1]
    refine AWp.condF rfl rfl ?_
    refine AWp.exit ?_
    refine AWp.seq ?_
    refine AWp.rowV (l := _) pok ?_
    refine sq.c (v := .slice a_b (zs.length) cp_b) rfl rfl rfl rfl ?_
    refine sq.c (v := .int .u64 (k)) rfl rfl rfl rfl ?_
    refine sq.c (v := .int .u8 (((lo8 k).toNat : Int))) rfl rfl (Eq.trans (b := some (.int .u8 (IntKind.u8.wrap (k)))) (by kernel_rfl) (okI (wrap_lo8 (by omega)))) rfl ?_
    have d_b_n3 : ∀ c ∈ blkOf (.slice a_b (zs).length cp_b), c ≠ n3 := fun c hc e => R_b.ne' (hf _ (Nat.le_refl _)) c hc (List.mem_singleton.2 e)
    have z_n3 : h.get n3 = none := hf0 _ hn
    refine sq.op rfl rfl (Does.build (e := 5) (cs := [.int .u8 (((lo8 k).toNat : Int))]) hf (fun _ _ => by kernel_rfl)) ?_
    rintro _ h16 n17 ⟨rfl, hb15⟩ s18 hn2 hf
    refine sq.w ?_
    have R_b := R_b.keep s18
    have hs := hs.trans (s18.mono (by simp))
    have hn := Nat.le_trans hn hn2
    have hfo := hf
    refine sq.op rfl rfl (Does.append (E := encByte) (xs := zs) (ys := [lo8 k]) appByte ⟨.slice 5, by kernel_rfl, fun _ q => by cases q⟩ hf (nil_sub h16 []) R_b (IsRow.of (E := encByte) (xs := [lo8 k]) (cap := 1) hb15 (Nat.le_refl _)) rfl rfl (by simp only [List.length_cons, List.length_nil]; omega) (by simp only [List.length_cons, List.length_nil]; omega) rfl) ?_
    rintro v22 h19 n20 ⟨R_b, _, hB23⟩ s21 hn2 hf
    have hs := hs.own B_b hf0 s21
    have B_b : ∀ c ∈ blkOf v22, c ∈ (blkOf (.slice a bs.length cp)) ∨ n ≤ c := fun c hc => (hB23 c hc).elim (B_b c) (fun q => .inr (q ▸ hn))
    refine sq.w ?_
    have dn_b_n3 : ∀ c ∈ blkOf v22, c ≠ n3 := fun c hc => (hB23 c hc).elim (fun q => d_b_n3 c q) (fun q => by rw [q]; exact (hfo.ne hb15).symm)
    have hb15 := s21 _ _ (fun hm => d_b_n3 _ hm rfl) hb15
    have d_b_n3 := dn_b_n3
    obtain ⟨a24, cp25, rfl⟩ := R_b.slice
    have hn := Nat.le_trans hn hn2
    refine sq.c (v := .slice a24 (zs ++ [lo8 k]).length cp25) rfl rfl rfl rfl ?_
    refine sq.e ?_
    refine AWp.ret ?_
    -- end 1: L1 ¬c1_1
    refine ⟨rfl, [.slice a24 (zs ++ [lo8 k]).length cp25], rfl, .slice a24 (zs ++ [lo8 k]).length cp25, rfl, hs, hn, ?_⟩
    rw [uvar_lt (by omega)] at hq
    rw [← hq]
    exact ⟨R_b, B_b⟩

/-- baton/bits.PutText -/
theorem f48_spec {h : Heap} {n : Nat} {a : Option Addr} {cp : Nat} (bs : List UInt8) (s : ByteArray) (R_b : OwnRow encByte 5 (Trie.nil : Heap) h (.slice a bs.length cp) bs) (hlb : bs.length < 100000000000) (hls : s.data.toList.length < 100000000000) :
    Makes Tryz.prog 48 [.slice a (bs.length) cp, .string (s)] h n ((blkOf (.slice a bs.length cp))) (fun v h2 _ => OwnRow encByte 5 (Trie.nil : Heap) h2 v (bs ++ txt s) ∧ ∀ c ∈ blkOf v, c ∈ blkOf (.slice a bs.length cp) ∨ n ≤ c) := by
  refine Makes.free fun hf => ?_
  have B_b : ∀ c ∈ blkOf (.slice a bs.length cp), c ∈ blkOf (.slice a bs.length cp) ∨ n ≤ c := fun c hc => .inl hc
  have hlt := txt_len s (by omega)
  have htx : txt s = uvar s.data.toList.length ++ s.data.toList := rfl
  rw [htx, List.length_append] at hlt
  have hs : SubBut h h ((blkOf (.slice a bs.length cp))) := .refl _ _
  have hn : n ≤ n := Nat.le_refl _
  have hf0 := hf
  refine Makes.of_bodyV (args := [.slice a (bs.length) cp, .string (s)]) (vs := [.slice a (bs.length) cp, .string (s), undef, undef, undef, undef, undef, undef, undef, undef, undef, undef]) Tryz.func48 rfl rfl ?_
  refine AWp.seq ?_
  refine AWp.rowV (l := _) pok ?_
  refine sq.c (v := .slice none (0) (0)) rfl rfl rfl rfl ?_
  refine sq.e ?_
  refine AWp.seq ?_
  refine AWp.rowV (l := _) pok ?_
  refine sq.c (v := .slice a (bs.length) cp) rfl rfl rfl rfl ?_
  refine sq.c (v := .string (s)) rfl rfl rfl rfl ?_
  refine sq.c (v := .int .i64 ((((s).data.toList.length : Nat) : Int))) rfl rfl (by kernel_rfl) rfl ?_
  refine sq.c (v := .int .u64 ((((s).data.toList.length : Nat) : Int))) rfl rfl (Eq.trans (b := some (.int .u64 (IntKind.u64.wrap ((((s).data.toList.length : Nat) : Int))))) (by kernel_rfl) (okI (wrap_u64 (by omega) (by omega)))) rfl ?_
  have hfo := hf
  refine sq.k rfl (CallsF.fn rfl (by kernel_rfl) rfl rfl) (f73_spec bs (s.data.toList.length : Int) R_b (by omega) (by omega) (by omega)) ?_
  rintro v1 h2 n3 ⟨R_u, hB_u⟩ s4 hn2 hf
  refine sq.w ?_
  have hs := hs.own B_b hf0 s4
  have B_u : ∀ c ∈ blkOf v1, c ∈ (blkOf (.slice a bs.length cp)) ∨ n ≤ c := fun c hc => (hB_u c hc).elim (B_b c) (fun q => .inr (Nat.le_trans hn q))
  obtain ⟨a_u0, cp_u0, rfl⟩ := R_u.slice
  have hn := Nat.le_trans hn hn2
  refine sq.c (v := .string (s)) rfl rfl rfl rfl ?_
  have hfo := hf
  refine sq.op rfl rfl (Does.appendS (bs := bs ++ (uvar s.data.toList.length)) (x := s) appByte ⟨.string, by kernel_rfl, fun _ q => by cases q⟩ hf (nil_sub h2 []) R_u  rfl rfl (by simp only [List.length_append]; omega) (by simp only [List.length_append]; omega) rfl) ?_
  rintro v8 h5 n6 ⟨R_u, _, hB9⟩ s7 hn2 hf
  have hs := hs.own B_u hf0 s7
  have B_u : ∀ c ∈ blkOf v8, c ∈ (blkOf (.slice a bs.length cp)) ∨ n ≤ c := fun c hc => (hB9 c hc).elim (B_u c) (fun q => .inr (q ▸ hn))
  refine sq.w ?_
  obtain ⟨a10, cp11, rfl⟩ := R_u.slice
  have hn := Nat.le_trans hn hn2
  refine sq.c (v := .slice a10 ((bs ++ (uvar s.data.toList.length)) ++ (s).data.toList).length cp11) rfl rfl rfl rfl ?_
  refine sq.e ?_
  refine AWp.ret ?_
  -- end 1: 
  refine ⟨rfl, [.slice a10 ((bs ++ (uvar s.data.toList.length)) ++ (s).data.toList).length cp11], rfl, .slice a10 ((bs ++ (uvar s.data.toList.length)) ++ (s).data.toList).length cp11, rfl, hs, hn, ?_⟩
  rw [htx, ← List.append_assoc]
  exact ⟨R_u, B_u⟩

/-- baton/labels.Key -/
theorem f28_spec {h : Heap} {n : Nat} {a : Option Addr} {cp : Nat} (ls : List Lab) (hl : IsRow encLab h (.slice a ls.length cp) ls) (hlen : ls.length ≤ 500) (hsz : ∀ x ∈ ls, x.1.data.toList.length < 5000 ∧ x.2.data.toList.length < 5000) :
    Tells Tryz.prog 28 [.slice a (ls.length) cp] h n (.string ⟨(keyB ls).toArray⟩) := by
  refine Makes.tells (Makes.free fun hf => ?_)
  have hs : SubBut h h ([]) := .refl _ _
  have hn : n ≤ n := Nat.le_refl _
  have hf0 := hf
  refine Makes.of_bodyV (args := [.slice a (ls.length) cp]) (vs := [.slice a (ls.length) cp, undef, undef, undef, undef, undef, undef, undef, undef, undef, undef, undef, undef, undef, undef, undef, undef, undef, undef, undef, undef, undef]) Tryz.func28 rfl rfl ?_
  refine AWp.seq ?_
  refine AWp.rowV (l := _) pok ?_
  refine sq.c (v := .string (⟨#[]⟩)) rfl rfl rfl rfl ?_
  refine sq.e ?_
  refine AWp.seq ?_
  refine AWp.rowV (l := _) pok ?_
  refine sq.c (v := .slice none (0) (0)) rfl rfl rfl rfl ?_
  refine sq.e ?_
  refine AWp.seq ?_
  refine AWp.seq ?_
  refine AWp.rowV (l := _) pok ?_
  refine sq.c (v := .slice a (ls.length) cp) rfl rfl rfl rfl ?_
  refine sq.c (v := .int .i64 (((ls.length : Nat) : Int))) rfl rfl (by kernel_rfl) rfl ?_
  refine sq.c (v := .int .i64 (0)) rfl rfl rfl rfl ?_
  refine sq.e ?_
  refine AWp.block ?_
  refine AWp.loopV (fun d vs h2 n3 => ∃ (i : Int) (zs : List UInt8) (a_b : Option Addr) (cp_b : Nat), d = ((ls.length : Nat) - i + 1).toNat ∧ SubBut h h2 ([]) ∧ n ≤ n3 ∧ Free h2 n3 ∧ OwnRow encByte 5 (Trie.nil : Heap) h2 (.slice a_b (zs).length cp_b) (zs) ∧ (∀ c ∈ blkOf (.slice a_b (zs).length cp_b), c ∈ [] ∨ n ≤ c) ∧ (0 ≤ i) ∧ (i ≤ (ls.length : Nat)) ∧ (zs = keyB (ls.take i.toNat)) ∧ ∃ y1 : Nat → Value, vs = [.slice a (ls.length) cp, undef, .string (⟨#[]⟩), .slice a_b (zs.length) cp_b, undef, (y1 5), .slice a (ls.length) cp, .int .i64 (((ls.length : Nat) : Int)), .int .i64 (i), (y1 9), (y1 10), (y1 11), (y1 12), (y1 13), (y1 14), (y1 15), (y1 16), (y1 17), (y1 18), (y1 19), undef, undef]) (((ls.length : Nat) - (0 : Int) + 1).toNat) ⟨0, [], none, 0, rfl, hs, hn, hf, OwnRow.nil, (by simp [blkOf]), (by omega), (by omega), (rfl), getV [undef, undef, undef, undef, undef, undef, undef, undef, undef, undef, undef, undef, undef, undef, undef, undef, undef, undef, undef, undef], rfl⟩ ?_
  rintro d vs h2 n3 ⟨i, zs, a_b, cp_b, rfl, hs, hn, hf, R_b, B_b, hi0, hi1, hq, y1, rfl⟩
  have hzl : zs.length ≤ 500 * 10100 := by
    rw [hq]
    refine Nat.le_trans (keyB_len _ fun x hx => hsz x (List.mem_of_mem_take hx)) (Nat.mul_le_mul_right _ ?_)
    rw [List.length_take]; omega
  refine AWp.seq ?_
  refine AWp.rowV (l := _) pok ?_
  refine sq.c (v := .bool (decide (i < (((ls.length : Nat) : Int))))) rfl rfl rfl rfl ?_
  refine sq.e ?_
  refine AWp.seq ?_
  by_cases c3_0 : i < (((ls.length : Nat) : Int))
  · rw [decide_eq_true c3_0]
    refine AWp.condT rfl rfl ?_
    refine AWp.skip ?_
    refine AWp.seq ?_
    refine AWp.block ?_
    refine AWp.seq ?_
    refine AWp.rowV (l := _) pok ?_
    have i10 : (0 : Int) ≤ (i : Int) := by omega
    obtain ⟨x11, hx_x11⟩ : ∃ x, (ls)[((i : Int)).toNat]? = some x := ⟨_, List.getElem?_eq_getElem (by omega)⟩
    have g_x11 := hsz x11 (List.mem_of_getElem? hx_x11)
    have gt_x11 := txt_len x11.1 (by omega)
    obtain ⟨b4, o5, cs_b4, ow_b4, ci_b4, ie9, hb6, hc7, hr8⟩ := IsRow.at (P := Tryz.prog) (t := 22) (e := 40) (k := .i64) (by kernel_rfl) (by kernel_rfl) (hl.keep hs) i10 hx_x11
    refine sq.c (v := .pointer (some ⟨b4, o5, none⟩)) rfl rfl ie9 rfl ?_
    refine sq.c (v := .agg #[.string (x11.1), .string (x11.2)]) rfl rfl (ldR (P := Tryz.prog) (t := 40) (k := 2) (xs := [.string (x11.1), .string (x11.2)]) (by kernel_rfl) (by kernel_rfl) hr8) rfl ?_
    have e_b4_n3 : b4 ≠ n3 := hf.ne hb6
    have d_b_n3 : ∀ c ∈ blkOf (.slice a_b (zs).length cp_b), c ≠ n3 := fun c hc e => R_b.ne' (hf _ (Nat.le_refl _)) c hc (List.mem_singleton.2 e)
    have z_n3 : h.get n3 = none := hf0 _ hn
    refine sq.op rfl rfl (Does.alloc (cs := [.string (⟨#[]⟩), .string (⟨#[]⟩)]) hf (z := .agg #[.string (⟨#[]⟩), .string (⟨#[]⟩)]) (by kernel_rfl) rfl) ?_
    rintro _ h13 n14 ⟨rfl, hb12⟩ s15 hn2 hf
    refine sq.w ?_
    have R_b := R_b.keep s15
    have hb6 := s15.sub _ _ hb6
    have hr8 := rowE_sub s15.sub hr8
    have hs := hs.trans s15
    have hn := Nat.le_trans hn hn2
    refine sq.op rfl rfl (Does.store (k := 2) (xs := [.string (x11.1), .string (x11.2)]) (cs' := [.string (x11.1), .string (x11.2)]) hf (by kernel_rfl) rfl rfl rfl hb12 rfl rfl (Nat.le_of_ble_eq_true rfl) rfl) ?_
    rintro _ h17 n18 ⟨rfl, hb16⟩ s19 hn2 hf
    refine sq.w0 ?_
    have R_b := R_b.but s19 (fun c hc hm => d_b_n3 c hc (List.mem_singleton.1 hm))
    have hs := hs.fresh z_n3 s19
    have hn := Nat.le_trans hn hn2
    refine sq.e ?_
    refine AWp.anyK pok [0, 1, 2, 4, 5, 3, 6, 7] (by kernel_rfl) (by kernel_rfl) rfl (fun x fr fr' h n hd _ q => ⟨hd ▸ q.1, q.2⟩) ?_
    refine dk.c (v := .slice a_b (zs.length) cp_b) rfl (by kernel_rfl) rfl rfl rfl rfl ?_
    refine dk.c (v := .pointer (some ⟨n3, 0, none⟩)) rfl (by kernel_rfl) rfl rfl (by kernel_rfl) rfl ?_
    refine dk.gB (v := .string (x11.1)) n3 rfl (by kernel_rfl) rfl rfl (fun _ q_ => (ld1 (P := Tryz.prog) (t := 9) (p := 0) (v := .string (x11.1)) (by kernel_rfl) (by kernel_rfl) (q_ _ hb16) rfl)) rfl ?_
    refine dk.c (v := .pointer (some ⟨n3, 1, none⟩)) rfl (by kernel_rfl) rfl rfl (by kernel_rfl) rfl ?_
    refine dk.gB (v := .string (x11.2)) n3 rfl (by kernel_rfl) rfl rfl (fun _ q_ => (ld1 (P := Tryz.prog) (t := 9) (p := 1) (v := .string (x11.2)) (by kernel_rfl) (by kernel_rfl) (q_ _ hb16) rfl)) rfl ?_
    have hfo := hf
    refine dk.k rfl (by kernel_rfl) rfl (CallsF.fn rfl (by kernel_rfl) rfl rfl) (f48_spec zs x11.1 R_b (by omega) (by omega)) (keepC (fun hm => d_b_n3 _ hm rfl) (keepC (fun hm => d_b_n3 _ hm rfl) keepN)) ?_
    rintro v20 h21 n22 ⟨R_p, hB_p⟩ s23 hn2 hf
    refine dk.w ?_
    have d_p_n3 : ∀ c ∈ blkOf v20, c ≠ n3 := fun c hc => (hB_p c hc).elim (fun q => d_b_n3 c q) (fun q e => by rw [e] at q; have := hfo _ q; rw [hb16] at this; cases this)
    have hs := hs.own B_b hf0 s23
    have B_p : ∀ c ∈ blkOf v20, c ∈ [] ∨ n ≤ c := fun c hc => (hB_p c hc).elim (B_b c) (fun q => .inr (Nat.le_trans hn q))
    have hb16 := s23 _ _ (fun hm => d_b_n3 _ hm rfl) hb16
    obtain ⟨a_p19, cp_p19, rfl⟩ := R_p.slice
    have hn := Nat.le_trans hn hn2
    have hfo := hf
    refine dk.k rfl (by kernel_rfl) rfl (CallsF.fn rfl (by kernel_rfl) rfl rfl) (f48_spec (zs ++ (txt x11.1)) x11.2 R_p (by rw [List.length_append]; omega) (by omega)) (keepC (fun hm => d_p_n3 _ hm rfl) (keepC (fun hm => d_p_n3 _ hm rfl) keepN)) ?_
    rintro v24 h25 n26 ⟨R_b, hB_b⟩ s27 hn2 hf
    refine dk.w ?_
    have d_b_n3 : ∀ c ∈ blkOf v24, c ≠ n3 := fun c hc => (hB_b c hc).elim (fun q => d_p_n3 c q) (fun q e => by rw [e] at q; have := hfo _ q; rw [hb16] at this; cases this)
    have hs := hs.own B_p hf0 s27
    have B_b : ∀ c ∈ blkOf v24, c ∈ [] ∨ n ≤ c := fun c hc => (hB_b c hc).elim (B_p c) (fun q => .inr (Nat.le_trans hn q))
    have hb16 := s27 _ _ (fun hm => d_p_n3 _ hm rfl) hb16
    obtain ⟨a_b23, cp_b23, rfl⟩ := R_b.slice
    have hn := Nat.le_trans hn hn2
    refine dk.c (v := .slice a_b23 ((zs ++ (txt x11.1)) ++ (txt x11.2)).length cp_b23) rfl (by kernel_rfl) rfl rfl rfl rfl ?_
    refine dk.e ?_
    refine AWp.rowV (l := _) pok ?_
    refine sq.c (v := .int .i64 (i + 1)) rfl rfl (okI (wrap_i64 (by omega) (by omega))) rfl ?_
    refine sq.c (v := .int .i64 (i + 1)) rfl rfl rfl rfl ?_
    refine sq.e ?_
    have hst := keyB_step hx_x11
    rw [show i.toNat + 1 = (i + 1).toNat by omega, ← hq, ← List.append_assoc] at hst
    refine ⟨_, _, rfl, by omega, i + 1, (zs ++ txt x11.1) ++ txt x11.2, a_b23, cp_b23, rfl, hs, hn, hf, R_b, B_b, (by omega), (by omega), (hst.symm), getV [undef, undef, undef, undef, undef, .pointer (some ⟨n3, 0, none⟩), undef, undef, undef, .bool true, .pointer (some ⟨b4, o5, none⟩), .agg #[.string (x11.1), .string (x11.2)], .slice a_b (zs.length) cp_b, .pointer (some ⟨n3, 0, none⟩), .string (x11.1), .slice a_p19 (zs ++ (txt x11.1)).length cp_p19, .pointer (some ⟨n3, 1, none⟩), .string (x11.2), .slice a_b23 ((zs ++ (txt x11.1)) ++ (txt x11.2)).length cp_b23, .int .i64 (i + 1)], rfl⟩
  · rw [decide_eq_false c3_0]
    refine AWp.condF rfl rfl ?_
    refine AWp.exit ?_
    refine AWp.seq ?_
    refine AWp.rowV (l := _) pok ?_
    refine sq.c (v := .slice a_b (zs.length) cp_b) rfl rfl rfl rfl ?_
    refine sq.c (v := .string (⟨(zs).toArray⟩)) rfl rfl (strOf_row (P := Tryz.prog) (e := 5) (by kernel_rfl) (by kernel_rfl) (by kernel_rfl) (by kernel_rfl) R_b.is) rfl ?_
    refine sq.c (v := .string (⟨(zs).toArray⟩)) rfl rfl rfl rfl ?_
    refine sq.e ?_
    refine AWp.ret ?_
    -- end 1: L3 ¬c3_0
    refine ⟨rfl, [.string (⟨(zs).toArray⟩)], rfl, .string (⟨(zs).toArray⟩), rfl, hs, hn, ?_⟩
    rw [show i.toNat = ls.length by omega, List.take_length] at hq
    rw [hq]

end Go.Proofs.YtkpjfibpaojelaaGreatDoor
