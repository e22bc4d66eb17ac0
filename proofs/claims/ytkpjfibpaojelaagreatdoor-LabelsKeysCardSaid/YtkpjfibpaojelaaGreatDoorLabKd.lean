/- labels: the document's Key: numbers, texts, labels as strings. -/
import Derived.Test.YtkpjfibpaojelaaGreatDoorLabVar
namespace Go.Proofs.YtkpjfibpaojelaaGreatDoor
open Go Go.Abs
set_option maxRecDepth 100000
set_option maxHeartbeats 4000000

theorem f77_spec : ∀ (k : Nat) (m : Int), m.toNat = k → 0 ≤ m → m < 18446744073709551616 → ∀ (h : Heap) (n : Nat), Tells Tryz.prog 77 [.int .u64 m] h n (.string (strB (uvar m.toNat))) := by
  intro k
  induction k using Nat.strongRecOn with
  | ind k ih =>
    intro m hk h0 h1 h n
    exact f77_step m h0 h1 fun hm h n => ih (m / 128).toNat (by omega) (m / 128) rfl (by omega) (by omega) h n
theorem strB_txt (s : ByteArray) : strB (uvar s.data.toList.length) ++ s = strB (txt s) := by
  unfold txt
  rw [← strB_add]
theorem strB_len (bs : List UInt8) : (strB bs).data.toList.length = bs.length := by simp
theorem add_len (a b : ByteArray) : (a ++ b).data.toList.length = a.data.toList.length + b.data.toList.length := by
  rw [ByteArray.data_append, Array.toList_append, List.length_append]


/-- baton/batonref01.Text -/
theorem f58_spec {h : Heap} {n : Nat} (s : ByteArray) (hls : s.data.toList.length < 100000000000) :
    Tells Tryz.prog 58 [.string (s)] h n (.string (strB (txt s))) := by
  refine Makes.tells (Makes.free fun hf => ?_)
  have hlt := uvar_ten (n := s.data.toList.length) (by omega) (by omega)
  rw [Int.toNat_natCast] at hlt
  have hs : SubBut h h ([]) := .refl _ _
  have hn : n ≤ n := Nat.le_refl _
  have hf0 := hf
  refine Makes.of_bodyV (args := [.string (s)]) (vs := [.string (s), undef, undef, undef, undef, undef, undef, undef, undef]) Tryz.func58 rfl rfl ?_
  refine AWp.seq ?_
  refine AWp.rowV (l := _) pok ?_
  refine sq.c (v := .string (⟨#[]⟩)) rfl rfl rfl rfl ?_
  refine sq.e ?_
  refine AWp.seq ?_
  refine AWp.rowV (l := _) pok ?_
  refine sq.c (v := .string (s)) rfl rfl rfl rfl ?_
  refine sq.c (v := .int .i64 ((((s).data.toList.length : Nat) : Int))) rfl rfl (by kernel_rfl) rfl ?_
  refine sq.c (v := .int .u64 ((((s).data.toList.length : Nat) : Int))) rfl rfl (Eq.trans (b := some (.int .u64 (IntKind.u64.wrap ((((s).data.toList.length : Nat) : Int))))) (by kernel_rfl) (okI (wrap_u64 (by omega) (by omega)))) rfl ?_
  refine sq.t (v := .string (strB (uvar ((s.data.toList.length : Nat) : Int).toNat))) rfl (CallsF.fn rfl (by kernel_rfl) rfl rfl) (fun hf => f77_spec _ (s.data.toList.length : Int) rfl (by omega) (by omega) _ _) hf rfl ?_
  intro n1 hn2 hf
  have hn := Nat.le_trans hn hn2
  refine sq.c (v := .string (s)) rfl rfl rfl rfl ?_
  refine sq.c (v := .string ((strB (uvar ((s.data.toList.length : Nat) : Int).toNat)) ++ s)) rfl rfl (add_str (a := strB (uvar ((s.data.toList.length : Nat) : Int).toNat)) (b := s) (by rw [strB_len, Int.toNat_natCast]; omega)) rfl ?_
  refine sq.c (v := .string ((strB (uvar ((s.data.toList.length : Nat) : Int).toNat)) ++ s)) rfl rfl rfl rfl ?_
  refine sq.e ?_
  refine AWp.ret ?_
  -- end 1: 
  refine ⟨rfl, [.string ((strB (uvar ((s.data.toList.length : Nat) : Int).toNat)) ++ s)], rfl, .string ((strB (uvar ((s.data.toList.length : Nat) : Int).toNat)) ++ s), rfl, hs, hn, ?_⟩
  rw [Int.toNat_natCast, strB_txt]

/-- baton/batonref05.Key -/
theorem f34_spec {h : Heap} {n : Nat} {a : Option Addr} {cp : Nat} (ls : List Lab) (hl : IsRow encLab h (.slice a ls.length cp) ls) (hlen : ls.length ≤ 500) (hsz : ∀ x ∈ ls, x.1.data.toList.length < 5000 ∧ x.2.data.toList.length < 5000) :
    Tells Tryz.prog 34 [.slice a (ls.length) cp] h n (.string (strB (keyB ls))) := by
  refine Makes.tells (Makes.free fun hf => ?_)
  have hs : SubBut h h ([]) := .refl _ _
  have hn : n ≤ n := Nat.le_refl _
  have hf0 := hf
  refine Makes.of_bodyV (args := [.slice a (ls.length) cp]) (vs := [.slice a (ls.length) cp, undef, undef, undef, undef, undef, undef, undef, undef, undef, undef, undef, undef, undef, undef, undef, undef, undef, undef, undef, undef, undef, undef, undef, undef, undef, undef]) Tryz.func34 rfl rfl ?_
  refine AWp.seq ?_
  refine AWp.rowV (l := _) pok ?_
  refine sq.c (v := .string (⟨#[]⟩)) rfl rfl rfl rfl ?_
  refine sq.e ?_
  refine AWp.seq ?_
  refine AWp.rowV (l := _) pok ?_
  refine sq.c (v := .string (⟨#[]⟩)) rfl rfl rfl rfl ?_
  refine sq.e ?_
  refine AWp.seq ?_
  refine AWp.seq ?_
  refine AWp.rowV (l := _) pok ?_
  refine sq.c (v := .int .i64 (0)) rfl rfl rfl rfl ?_
  refine sq.e ?_
  refine AWp.block ?_
  refine AWp.loopV (fun d vs h' n2 => ∃ (i : Int) (z : ByteArray), d = ((ls.length : Nat) - i + 1).toNat ∧ h = h' ∧ n ≤ n2 ∧ Free h n2 ∧ (0 ≤ i) ∧ (i ≤ (ls.length : Nat)) ∧ (z = strB (keyB (ls.take i.toNat))) ∧ ∃ y1 : Nat → Value, vs = [.slice a (ls.length) cp, undef, .string (⟨#[]⟩), .string (z), .int .i64 (i), (y1 5), (y1 6), (y1 7), (y1 8), (y1 9), (y1 10), (y1 11), (y1 12), (y1 13), (y1 14), (y1 15), (y1 16), (y1 17), (y1 18), (y1 19), (y1 20), (y1 21), (y1 22), (y1 23), (y1 24), (y1 25), undef]) (((ls.length : Nat) - (0 : Int) + 1).toNat) ⟨0, ⟨#[]⟩, rfl, rfl, hn, hf, (by omega), (by omega), (rfl), getV [undef, undef, undef, undef, undef, undef, undef, undef, undef, undef, undef, undef, undef, undef, undef, undef, undef, undef, undef, undef, undef, undef, undef, undef, undef, undef], rfl⟩ ?_
  rintro d vs h' n2 ⟨i, z, rfl, rfl, hn, hf, hi0, hi1, hq, y1, rfl⟩
  have hzl : z.data.toList.length ≤ 500 * 10100 := by
    rw [hq, strB_len]
    refine Nat.le_trans (keyB_len _ fun x hx => hsz x (List.mem_of_mem_take hx)) (Nat.mul_le_mul_right _ ?_)
    rw [List.length_take]; omega
  refine AWp.seq ?_
  refine AWp.seq ?_
  refine AWp.rowV (l := _) pok ?_
  refine sq.c (v := .int .i64 (i)) rfl rfl rfl rfl ?_
  refine sq.c (v := .slice a (ls.length) cp) rfl rfl rfl rfl ?_
  refine sq.c (v := .int .i64 (((ls.length : Nat) : Int))) rfl rfl (by kernel_rfl) rfl ?_
  refine sq.c (v := .bool (decide (i < (((ls.length : Nat) : Int))))) rfl rfl rfl rfl ?_
  refine sq.e ?_
  by_cases c3_3 : i < (((ls.length : Nat) : Int))
  · rw [decide_eq_true c3_3]
    refine AWp.condT rfl rfl ?_
    refine AWp.skip ?_
    refine AWp.seq ?_
    refine AWp.block ?_
    refine AWp.anyV pok [] [0, 1, 2, 3, 4, 5, 8, 9, 10, 11, 12, 6, 7, 13, 14, 15] (by kernel_rfl) (by kernel_rfl) rfl (fun x fr fr' h n hd _ q => ⟨hd ▸ q.1, q.2⟩) ?_
    refine dq.c (v := .string (z)) rfl (by kernel_rfl) rfl rfl rfl rfl ?_
    refine dq.c (v := .slice a (ls.length) cp) rfl (by kernel_rfl) rfl rfl rfl rfl ?_
    refine dq.c (v := .int .i64 (i)) rfl (by kernel_rfl) rfl rfl rfl rfl ?_
    have i9 : (0 : Int) ≤ (i : Int) := by omega
    obtain ⟨x10, hx_x10⟩ : ∃ x, (ls)[((i : Int)).toNat]? = some x := ⟨_, List.getElem?_eq_getElem (by omega)⟩
    have g_x10 := hsz x10 (List.mem_of_getElem? hx_x10)
    have gt_x10 := txt_len x10.1 (by omega)
    have gu_x10 := txt_len x10.2 (by omega)
    have gl_x10 := strB_len (txt x10.1)
    have gm_x10 := strB_len (txt x10.2)
    obtain ⟨b3, o4, cs_b3, ow_b3, ci_b3, ie8, hb5, hc6, hr7⟩ := IsRow.at (P := Tryz.prog) (t := 22) (e := 40) (k := .i64) (by kernel_rfl) (by kernel_rfl) (hl.keep hs) i9 hx_x10
    refine dq.c (v := .pointer (some ⟨b3, o4, none⟩)) rfl (by kernel_rfl) rfl rfl ie8 rfl ?_
    refine dq.c (v := .pointer (some ⟨b3, o4, none⟩)) rfl (by kernel_rfl) rfl rfl (by kernel_rfl) rfl ?_
    refine dq.g (v := .string (x10.1)) rfl (by kernel_rfl) rfl rfl (ld1 (P := Tryz.prog) (t := 9) (p := o4 + 0) (v := .string (x10.1)) (by kernel_rfl) (by kernel_rfl) hb5 (hc6 0 _ rfl)) rfl ?_
    refine dq.c (v := .slice a (ls.length) cp) rfl (by kernel_rfl) rfl rfl rfl rfl ?_
    refine dq.c (v := .int .i64 (i)) rfl (by kernel_rfl) rfl rfl rfl rfl ?_
    have i17 : (0 : Int) ≤ (i : Int) := by omega
    obtain ⟨b11, o12, cs_b11, ow_b11, ci_b11, ie16, hb13, hc14, hr15⟩ := IsRow.at (P := Tryz.prog) (t := 22) (e := 40) (k := .i64) (by kernel_rfl) (by kernel_rfl) (hl.keep hs) i17 hx_x10
    refine dq.c (v := .pointer (some ⟨b11, o12, none⟩)) rfl (by kernel_rfl) rfl rfl ie16 rfl ?_
    refine dq.c (v := .pointer (some ⟨b11, o12 + 1, none⟩)) rfl (by kernel_rfl) rfl rfl (by kernel_rfl) rfl ?_
    refine dq.g (v := .string (x10.2)) rfl (by kernel_rfl) rfl rfl (ld1 (P := Tryz.prog) (t := 9) (p := o12 + 1) (v := .string (x10.2)) (by kernel_rfl) (by kernel_rfl) hb13 (hc14 1 _ rfl)) rfl ?_
    refine dq.t (v := .string (strB (txt x10.1))) rfl (by kernel_rfl) rfl (CallsF.fn rfl (by kernel_rfl) rfl rfl) (fun hf => f58_spec x10.1 (by omega)) hf rfl ?_
    intro n18 hn2 hf
    have hn := Nat.le_trans hn hn2
    refine dq.c (v := .string (z ++ (strB (txt x10.1)))) rfl (by kernel_rfl) rfl rfl (add_str (a := z) (b := strB (txt x10.1)) (by omega)) rfl ?_
    refine dq.t (v := .string (strB (txt x10.2))) rfl (by kernel_rfl) rfl (CallsF.fn rfl (by kernel_rfl) rfl rfl) (fun hf => f58_spec x10.2 (by omega)) hf rfl ?_
    intro n19 hn2 hf
    have hn := Nat.le_trans hn hn2
    refine dq.c (v := .string ((z ++ (strB (txt x10.1))) ++ (strB (txt x10.2)))) rfl (by kernel_rfl) rfl rfl (add_str (a := z ++ (strB (txt x10.1))) (b := strB (txt x10.2)) (by rw [add_len]; omega)) rfl ?_
    refine dq.c (v := .string ((z ++ (strB (txt x10.1))) ++ (strB (txt x10.2)))) rfl (by kernel_rfl) rfl rfl rfl rfl ?_
    refine dq.e ?_
    refine AWp.rowV (l := _) pok ?_
    refine sq.c (v := .int .i64 (i)) rfl rfl rfl rfl ?_
    refine sq.c (v := .int .i64 (i + 1)) rfl rfl (okI (wrap_i64 (by omega) (by omega))) rfl ?_
    refine sq.c (v := .int .i64 (i + 1)) rfl rfl rfl rfl ?_
    refine sq.e ?_
    have hst := keyB_step hx_x10
    rw [show i.toNat + 1 = (i + 1).toNat by omega] at hst
    refine ⟨_, _, rfl, by omega, i + 1, (z ++ strB (txt x10.1)) ++ strB (txt x10.2), rfl, rfl, hn, hf, (by omega), (by omega), (by rw [hq, strB_add, strB_add, hst, List.append_assoc]), getV [undef, undef, undef, undef, undef, .int .i64 (i), .slice a (ls.length) cp, .int .i64 (((ls.length : Nat) : Int)), .bool true, .int .i64 (i), .int .i64 (i + 1), .string (z), .slice a (ls.length) cp, .int .i64 (i), .pointer (some ⟨b3, o4, none⟩), .pointer (some ⟨b3, o4, none⟩), .string (x10.1), .string (strB (txt x10.1)), .string (z ++ (strB (txt x10.1))), .slice a (ls.length) cp, .int .i64 (i), .pointer (some ⟨b11, o12, none⟩), .pointer (some ⟨b11, o12 + 1, none⟩), .string (x10.2), .string (strB (txt x10.2)), .string ((z ++ (strB (txt x10.1))) ++ (strB (txt x10.2)))], rfl⟩
  · rw [decide_eq_false c3_3]
    refine AWp.condF rfl rfl ?_
    refine AWp.exit ?_
    refine AWp.seq ?_
    refine AWp.rowV (l := _) pok ?_
    refine sq.c (v := .string (z)) rfl rfl rfl rfl ?_
    refine sq.c (v := .string (z)) rfl rfl rfl rfl ?_
    refine sq.e ?_
    refine AWp.ret ?_
    -- end 1: L3 ¬c3_3
    refine ⟨rfl, [.string (z)], rfl, .string (z), rfl, hs, hn, ?_⟩
    rw [show i.toNat = ls.length by omega, List.take_length] at hq
    rw [hq]

end Go.Proofs.YtkpjfibpaojelaaGreatDoor
