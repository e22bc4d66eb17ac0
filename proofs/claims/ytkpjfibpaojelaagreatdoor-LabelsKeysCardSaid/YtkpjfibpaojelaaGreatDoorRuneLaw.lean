/- The document's rune and the model's. -/
import Derived.Test.YtkpjfibpaojelaaGreatDoorLabTabs
namespace Go.Proofs.YtkpjfibpaojelaaGreatDoor
open Go Go.Abs
set_option maxRecDepth 100000
set_option maxHeartbeats 4000000

theorem dec1 {n b0 b1 b2 b3 : Nat} (h : b0 < 128) : Lib.decodeN n b0 b1 b2 b3 = (b0, 1) := by unfold Lib.decodeN; rw [if_pos h]
theorem dec0 {n b0 b1 b2 b3 : Nat} (h : 128 ≤ b0 ∧ b0 < 192 ∨ 248 ≤ b0) : Lib.decodeN n b0 b1 b2 b3 = (65533, 1) := by
  unfold Lib.decodeN
  rw [if_neg (by omega), if_neg (by omega), if_neg (by omega), if_neg (by omega)]
theorem dec2 {n b0 b1 b2 b3 : Nat} (h : 192 ≤ b0 ∧ b0 < 224) : Lib.decodeN n b0 b1 b2 b3 = if 2 ≤ n ∧ 128 ≤ b1 ∧ b1 < 192 ∧ 128 ≤ (b0 - 192) * 64 + (b1 - 128) then ((b0 - 192) * 64 + (b1 - 128), 2) else (65533, 1) := by
  unfold Lib.decodeN
  rw [if_neg (by omega)]
  by_cases c : 2 ≤ n ∧ 128 ≤ b1 ∧ b1 < 192
  · rw [if_pos (by omega)]
    have e : b0 % 32 * 64 + b1 % 64 = (b0 - 192) * 64 + (b1 - 128) := by omega
    rw [e]
    by_cases c2 : 128 ≤ (b0 - 192) * 64 + (b1 - 128)
    · rw [if_pos c2, if_pos (by omega)]
    · rw [if_neg c2, if_neg (by omega)]
  · rw [if_neg (by omega), if_neg (by omega), if_neg (by omega), if_neg (by omega)]
theorem dec3 {n b0 b1 b2 b3 : Nat} (h : 224 ≤ b0 ∧ b0 < 240) (h1 : b1 < 256) (h2 : b2 < 256) : Lib.decodeN n b0 b1 b2 b3 = if 3 ≤ n ∧ (128 ≤ b1 ∧ b1 < 192) ∧ (128 ≤ b2 ∧ b2 < 192) ∧ 2048 ≤ ((b0 - 224) * 64 + (b1 - 128)) * 64 + (b2 - 128) ∧ ¬ (55296 ≤ ((b0 - 224) * 64 + (b1 - 128)) * 64 + (b2 - 128) ∧ ((b0 - 224) * 64 + (b1 - 128)) * 64 + (b2 - 128) ≤ 57343)
    then (((b0 - 224) * 64 + (b1 - 128)) * 64 + (b2 - 128), 3) else (65533, 1) := by
  unfold Lib.decodeN
  rw [if_neg (by omega), if_neg (by omega)]
  by_cases c : 3 ≤ n ∧ (128 ≤ b1 ∧ b1 < 192) ∧ (128 ≤ b2 ∧ b2 < 192)
  · rw [if_pos (by omega)]
    have e : b0 % 16 * 4096 + b1 % 64 * 64 + b2 % 64 = ((b0 - 224) * 64 + (b1 - 128)) * 64 + (b2 - 128) := by omega
    rw [e]
    generalize hg : ((b0 - 224) * 64 + (b1 - 128)) * 64 + (b2 - 128) = g
    have hlt : g < 65536 := by omega
    by_cases c2 : 2048 ≤ g ∧ ¬ (55296 ≤ g ∧ g ≤ 57343)
    · rw [if_pos (by omega), if_pos (by omega)]
    · rw [if_neg (by omega), if_neg (by omega)]
  · rw [if_neg (by omega), if_neg (by omega), if_neg (by omega)]
theorem dec4 {n b0 b1 b2 b3 : Nat} (h : 240 ≤ b0 ∧ b0 < 248) (h1 : b1 < 256) (h2 : b2 < 256) (h3 : b3 < 256) : Lib.decodeN n b0 b1 b2 b3 = if 4 ≤ n ∧ (128 ≤ b1 ∧ b1 < 192) ∧ (128 ≤ b2 ∧ b2 < 192) ∧ (128 ≤ b3 ∧ b3 < 192) ∧ 65536 ≤ (((b0 - 240) * 64 + (b1 - 128)) * 64 + (b2 - 128)) * 64 + (b3 - 128) ∧ (((b0 - 240) * 64 + (b1 - 128)) * 64 + (b2 - 128)) * 64 + (b3 - 128) ≤ 1114111
    then ((((b0 - 240) * 64 + (b1 - 128)) * 64 + (b2 - 128)) * 64 + (b3 - 128), 4) else (65533, 1) := by
  unfold Lib.decodeN
  rw [if_neg (by omega), if_neg (by omega), if_neg (by omega)]
  by_cases c : 4 ≤ n ∧ (128 ≤ b1 ∧ b1 < 192) ∧ (128 ≤ b2 ∧ b2 < 192) ∧ (128 ≤ b3 ∧ b3 < 192)
  · rw [if_pos (by omega)]
    have e : b0 % 8 * 262144 + b1 % 64 * 4096 + b2 % 64 * 64 + b3 % 64 = (((b0 - 240) * 64 + (b1 - 128)) * 64 + (b2 - 128)) * 64 + (b3 - 128) := by omega
    rw [e]
    generalize hg : (((b0 - 240) * 64 + (b1 - 128)) * 64 + (b2 - 128)) * 64 + (b3 - 128) = g
    by_cases c2 : 65536 ≤ g ∧ g ≤ 1114111
    · rw [if_pos (by omega), if_pos (by omega)]
    · rw [if_neg (by omega), if_neg (by omega)]
  · rw [if_neg (by omega), if_neg (by omega)]

/-- The bytes of a text, as numbers. -/
def bN (s : ByteArray) (i : Nat) : Nat := (s.data.toList.getD i 0).toNat
theorem bN_bt (s : ByteArray) (i : Nat) : (bN s i : Int) = bt s (i : Nat) := by
  unfold bN bt
  rw [List.getD_eq_getElem?_getD]
  rfl
theorem bN_lt (s : ByteArray) (i : Nat) : bN s i < 256 := UInt8.toNat_lt _
def zz (d : Nat × Nat) : Nat × Nat := if d = (65533, 1) then (0, 0) else d
theorem zz_bad : zz (65533, 1) = (0, 0) := rfl
theorem zz_ok {a b : Nat} (h : b ≠ 1) : zz (a, b) = (a, b) := by
  unfold zz
  rw [if_neg]
  intro e
  exact h (congrArg Prod.snd e)
theorem runeD_N {s : ByteArray} (h : 0 < s.data.toList.length) : runeD s = zz (Lib.decodeN s.data.toList.length (bN s 0) (bN s 1) (bN s 2) (bN s 3)) := by
  have e : Lib.decodeL s.data.toList = Lib.decodeN s.data.toList.length (bN s 0) (bN s 1) (bN s 2) (bN s 3) := by
    have := Lib.decodeL_drop s 0
    rw [List.drop_zero] at this
    rw [this, Lib.decode_N]
    rfl
  have hne : s.data.toList ≠ [] := List.ne_nil_of_length_pos h
  unfold runeD
  rw [e]
  simp only [hne, false_or]
  rfl

/-- The document's way from the lead byte on: how many follow, the least number, what the lead byte bears. -/
def lead (b : Int) : Int × Int × Int := if b < 224 then (1, 128, b - 192) else if b < 240 then (2, 2048, b - 224) else (3, 65536, b - 240)

theorem rune_short {s : ByteArray} (h : 0 < s.data.toList.length) (h1 : 192 ≤ bt s 0) (h2 : bt s 0 < 248) (hn : (s.data.toList.length : Int) < 1 + (lead (bt s 0)).1) : runeD s = (0, 0) := by
  have e0 := bN_bt s 0
  have q1 := bN_lt s 1; have q2 := bN_lt s 2; have q3 := bN_lt s 3
  simp only [Int.natCast_zero] at e0
  rw [runeD_N h]
  unfold lead at hn
  split at hn
  · rw [dec2 (by omega), if_neg (by simp only at hn; omega), zz_bad]
  · split at hn
    · rw [dec3 (by omega) q1 q2, if_neg (by simp only at hn; omega), zz_bad]
    · rw [dec4 (by omega) q1 q2 q3, if_neg (by simp only at hn; omega), zz_bad]

theorem rune_cont {s : ByteArray} (h : 0 < s.data.toList.length) (h1 : 192 ≤ bt s 0) (h2 : bt s 0 < 248) {k : Nat} (hk : (k : Int) + 1 ≤ (lead (bt s 0)).1) (hb : bt s ((k : Int) + 1) < 128 ∨ 192 ≤ bt s ((k : Int) + 1)) : runeD s = (0, 0) := by
  have e0 := bN_bt s 0
  have e1 := bN_bt s 1; have e2 := bN_bt s 2; have e3 := bN_bt s 3
  have q1 := bN_lt s 1; have q2 := bN_lt s 2; have q3 := bN_lt s 3
  simp only [Int.natCast_zero] at e0
  rw [runeD_N h]
  unfold lead at hk
  have key : ∀ j : Nat, k + 1 = j → bt s ((k : Int) + 1) = bt s (j : Nat) := fun j e => by rw [← e]; rfl
  split at hk
  · have : k = 0 := by simp only at hk; omega
    have := key 1 (by omega)
    rw [dec2 (by omega), if_neg (by omega), zz_bad]
  · split at hk
    · have hk2 : k = 0 ∨ k = 1 := by simp only at hk; omega
      rw [dec3 (by omega) q1 q2, if_neg, zz_bad]
      rcases hk2 with e | e
      · have := key 1 (by omega); omega
      · have := key 2 (by omega); omega
    · have hk2 : k = 0 ∨ k = 1 ∨ k = 2 := by simp only at hk; omega
      rw [dec4 (by omega) q1 q2 q3, if_neg, zz_bad]
      rcases hk2 with e | e | e
      · have := key 1 (by omega); omega
      · have := key 2 (by omega); omega
      · have := key 3 (by omega); omega

theorem rune_end {s : ByteArray} (h : 0 < s.data.toList.length) (h1 : 192 ≤ bt s 0) (h2 : bt s 0 < 248) (hn : 1 + (lead (bt s 0)).1 ≤ (s.data.toList.length : Int)) {k : Nat} (hk : (k : Int) = (lead (bt s 0)).1) (hb : ∀ j : Nat, 1 ≤ j → j ≤ k → 128 ≤ bt s (j : Nat) ∧ bt s (j : Nat) < 192) :
    runeD s = if runeC s (lead (bt s 0)).2.2 k < (lead (bt s 0)).2.1 ∨ 1114111 < runeC s (lead (bt s 0)).2.2 k ∨ 55296 ≤ runeC s (lead (bt s 0)).2.2 k ∧ runeC s (lead (bt s 0)).2.2 k ≤ 57343 then (0, 0) else ((runeC s (lead (bt s 0)).2.2 k).toNat, k + 1) := by
  have e0 := bN_bt s 0
  have e1 := bN_bt s 1; have e2 := bN_bt s 2; have e3 := bN_bt s 3
  have q1 := bN_lt s 1; have q2 := bN_lt s 2; have q3 := bN_lt s 3
  simp only [Int.natCast_zero] at e0
  rw [runeD_N h]
  unfold lead at *
  split at hk
  · rename_i c
    rw [if_pos c] at hn ⊢
    simp only at hn hk ⊢
    have hk1 : k = 1 := by omega
    subst hk1
    have b1 := hb 1 (by omega) (by omega)
    have hv : runeC s (bt s 0 - 192) 1 = (bt s 0 - 192) * 64 + bt s (1 : Nat) - 128 := rfl
    generalize runeC s (bt s 0 - 192) 1 = r at *
    rw [dec2 (by omega)]
    split
    · rename_i c2
      rw [zz_ok (by decide), if_neg (by omega)]
      congr 1
      omega
    · rename_i c2
      rw [zz_bad, if_pos (by omega)]
  · split at hk
    · rename_i c c'
      rw [if_neg c, if_pos c'] at hn ⊢
      simp only at hn hk ⊢
      have hk1 : k = 2 := by omega
      subst hk1
      have b1 := hb 1 (by omega) (by omega)
      have b2 := hb 2 (by omega) (by omega)
      have hv : runeC s (bt s 0 - 224) 2 = ((bt s 0 - 224) * 64 + bt s (1 : Nat) - 128) * 64 + bt s (2 : Nat) - 128 := rfl
      generalize runeC s (bt s 0 - 224) 2 = r at *
      rw [dec3 (by omega) q1 q2]
      split
      · rename_i c2
        rw [zz_ok (by decide), if_neg (by omega)]
        congr 1
        omega
      · rename_i c2
        rw [zz_bad, if_pos (by omega)]
    · rename_i c c'
      rw [if_neg c, if_neg c'] at hn ⊢
      simp only at hn hk ⊢
      have hk1 : k = 3 := by omega
      subst hk1
      have b1 := hb 1 (by omega) (by omega)
      have b2 := hb 2 (by omega) (by omega)
      have b3 := hb 3 (by omega) (by omega)
      have hv : runeC s (bt s 0 - 240) 3 = (((bt s 0 - 240) * 64 + bt s (1 : Nat) - 128) * 64 + bt s (2 : Nat) - 128) * 64 + bt s (3 : Nat) - 128 := rfl
      generalize runeC s (bt s 0 - 240) 3 = r at *
      rw [dec4 (by omega) q1 q2 q3]
      split
      · rename_i c2
        rw [zz_ok (by decide), if_neg (by omega)]
        congr 1
        omega
      · rename_i c2
        rw [zz_bad, if_pos (by omega)]
theorem rune_ascii {s : ByteArray} (h : 0 < s.data.toList.length) (h1 : bt s 0 < 128) : runeD s = ((bt s 0).toNat, 1) := by
  have e0 := bN_bt s 0
  simp only [Int.natCast_zero] at e0
  rw [runeD_N h, dec1 (by omega)]
  unfold zz
  rw [if_neg]
  · exact Prod.ext (by simp only; omega) rfl
  · intro e
    have := congrArg Prod.fst e
    simp only at this
    omega
theorem rune_bad {s : ByteArray} (h : 0 < s.data.toList.length) (h1 : 128 ≤ bt s 0 ∧ bt s 0 < 192 ∨ 248 ≤ bt s 0) : runeD s = (0, 0) := by
  have e0 := bN_bt s 0
  simp only [Int.natCast_zero] at e0
  rw [runeD_N h, dec0 (by omega)]
  rfl
theorem lead_bd {b n l c : Int} (h : lead b = (n, l, c)) (h1 : 192 ≤ b) (h2 : b < 248) : 0 ≤ c ∧ c < 32 ∧ 1 ≤ n ∧ n ≤ 3 ∧ 0 ≤ l := by
  unfold lead at h
  split at h
  · simp only [Prod.mk.injEq] at h; omega
  · split at h
    · simp only [Prod.mk.injEq] at h; omega
    · simp only [Prod.mk.injEq] at h; omega
theorem rune_tuple {s : ByteArray} {a b : Nat} (h : runeD s = (a, b)) {x y : Int} (hx : x = (a : Int)) (hy : y = (b : Int)) : Value.tuple #[.int .i64 x, .int .i64 y] = .tuple #[.int .i64 ((runeD s).1 : Nat), .int .i64 ((runeD s).2 : Nat)] := by
  rw [h, hx, hy]
theorem zz_of {d : Nat × Nat} (h : ¬ ((zz d).2 : Int) = 0) : zz d = d ∧ d ≠ (65533, 1) := by
  unfold zz at *
  split at h
  · simp at h
  · rename_i c; rw [if_neg c]; exact ⟨rfl, c⟩
theorem rune_at {s : ByteArray} {a : Int} (h0 : 0 ≤ a) (h1 : a < (s.data.toList.length : Nat)) : runeD (sub s a (s.data.toList.length : Nat)) = zz (Utf8.decode s a.toNat) := by
  have e : (sub s a (s.data.toList.length : Nat)).data.toList = s.data.toList.drop a.toNat := by
    simp only [sub, sliceS, Int.toNat_natCast]
    rw [List.take_of_length_le (by rw [List.length_drop]; omega)]
  have hp : 0 < (s.data.toList.drop a.toNat).length := by rw [List.length_drop]; omega
  unfold runeD zz
  rw [e, Lib.decodeL_drop]
  simp only [List.ne_nil_of_length_pos hp, false_or]
theorem mv_badD {l : List UInt8} {ds r : List (Nat × Nat)} {d : Nat × Nat} (h : decs l = ds ++ d :: r) (hd : okD d = false) : mayValueL l = false := by
  unfold mayValueL
  rw [h, List.all_append, List.all_cons, hd]
  simp
theorem mv_endD {l : List UInt8} {ds : List (Nat × Nat)} (h : decs l = ds) (ho : ds.all okD = true) : mayValueL l = (decide (1 ≤ ds.length) && decide (ds.length ≤ 64)) := by
  unfold mayValueL
  rw [h, ho, Bool.true_and]
end Go.Proofs.YtkpjfibpaojelaaGreatDoor
