/- labels: the document's Key; numbers and texts as strings. -/
import Derived.Test.YtkpjfibpaojelaaGreatDoorLabT
import Derived.Test.YtkpjfibpaojelaaGreatDoorLabUn
namespace Go.Proofs.YtkpjfibpaojelaaGreatDoor
open Go Go.Abs
set_option maxRecDepth 100000
set_option maxHeartbeats 4000000

abbrev strB (bs : List UInt8) : ByteArray := ⟨bs.toArray⟩
theorem strB_add (a b : List UInt8) : strB a ++ strB b = strB (a ++ b) := by
  apply ByteArray.ext
  simp [strB, ByteArray.data_append]
theorem wrap_hi8 {n : Int} (h : 0 ≤ n) : n % 128 + 128 = ((hi8 (lo8 n)).toNat : Int) := by
  rw [hi8_toNat]
  have : (lo8 n).toNat = n.toNat % 256 := by unfold lo8; rw [UInt8.toNat_ofNat']
  omega
theorem quo_u64 {a b : Int} (h0 : 0 ≤ a) (h1 : a < 18446744073709551616) (hb : 0 < b := by omega) : IntKind.u64.wrap (a.tdiv b) = a / b := by
  have h2 : a.tdiv b = a / b := Int.tdiv_eq_ediv_of_nonneg h0
  have h3 : a / b ≤ a := Int.ediv_le_self b h0
  have h4 : 0 ≤ a / b := Int.ediv_nonneg h0 (by omega)
  rw [h2]
  exact wrap_u64 h4 (by omega)
theorem strB_size (bs : List UInt8) : (strB bs).size = bs.length := by simp [ByteArray.size]


/-- baton/batonref01.Varint -/
theorem f77_step {h : Heap} {n : Nat} (m : Int) (hm0 : 0 ≤ m) (hm1 : m < 18446744073709551616) (ih : 128 ≤ m → ∀ (h : Heap) (n : Nat), Tells Tryz.prog 77 [.int .u64 (m / 128)] h n (.string (strB (uvar (m / 128).toNat)))) :
    Tells Tryz.prog 77 [.int .u64 (m)] h n (.string (strB (uvar m.toNat))) := by
  refine Makes.tells (Makes.free fun hf => ?_)
  have hl := uvar_ten (n := m / 128) (by omega) (by omega)
  have hs : SubBut h h ([]) := .refl _ _
  have hn : n ≤ n := Nat.le_refl _
  have hf0 := hf
  refine Makes.of_bodyV (args := [.int .u64 (m)]) (vs := [.int .u64 (m), undef, undef, undef, undef, undef, undef, undef, undef, undef, undef, undef, undef, undef, undef, undef, undef, undef, undef]) Tryz.func77 rfl rfl ?_
  refine AWp.seq ?_
  refine AWp.rowV (l := _) pok ?_
  refine sq.c (v := .string (⟨#[]⟩)) rfl rfl rfl rfl ?_
  refine sq.e ?_
  refine AWp.seq ?_
  refine AWp.seq ?_
  refine AWp.rowV (l := _) pok ?_
  refine sq.c (v := .int .u64 (m)) rfl rfl rfl rfl ?_
  refine sq.c (v := .bool (decide (m < (128 : Int)))) rfl rfl rfl rfl ?_
  refine sq.e ?_
  by_cases c1_1 : m < (128 : Int)
  · rw [decide_eq_true c1_1]
    refine AWp.condT rfl rfl ?_
    refine AWp.seq ?_
    refine AWp.rowV (l := _) pok ?_
    refine sq.c (v := .int .u64 (m)) rfl rfl rfl rfl ?_
    refine sq.c (v := .int .u8 (((lo8 m).toNat : Int))) rfl rfl (Eq.trans (b := some (.int .u8 (IntKind.u8.wrap (m)))) (by kernel_rfl) (okI (wrap_lo8 (by omega)))) rfl ?_
    have z_n : h.get n = none := hf0 _ hn
    refine sq.op rfl rfl (Does.build (e := 5) (cs := [.int .u8 (((lo8 m).toNat : Int))]) hf (fun _ _ => by kernel_rfl)) ?_
    rintro _ h2 n3 ⟨rfl, hb1⟩ s4 hn2 hf
    refine sq.w ?_
    have hs := hs.trans s4
    have hn := Nat.le_trans hn hn2
    refine sq.c (v := .string (⟨([lo8 m] : List UInt8).toArray⟩)) rfl rfl (strOf_row (P := Tryz.prog) (a := 42) (b := 9) (e := 5) (v := .slice (some ⟨n, 0, none⟩) (1) (1)) (bs := [lo8 m]) (by kernel_rfl) (by kernel_rfl) (by kernel_rfl) (by kernel_rfl) (IsRow.of (E := encByte) (xs := [lo8 m]) (cap := 1) hb1 (Nat.le_refl _))) rfl ?_
    refine sq.c (v := .string (⟨([lo8 m] : List UInt8).toArray⟩)) rfl rfl rfl rfl ?_
    refine sq.e ?_
    refine AWp.ret ?_
    -- end 1: c1_1
    refine ⟨rfl, [.string (⟨([lo8 m] : List UInt8).toArray⟩)], rfl, .string (⟨([lo8 m] : List UInt8).toArray⟩), rfl, hs, hn, ?_⟩
    rw [uvar_lt c1_1]
  · rw [decide_eq_false c1_1]
    refine AWp.condF rfl rfl ?_
    refine AWp.skip ?_
    refine AWp.seq ?_
    refine AWp.anyT pok (.s 0 (.s 1 (.s 2 (.s 3 (.s 6 (.s 7 (.f 4 8 (.s 5 (.s 8 (.s 9 (.s 10 .e)))) (.s 4 (.s 5 (.s 9 (.s 10 .e))))))))))) (by kernel_rfl) (by kernel_rfl) rfl (fun x fr fr' h n hd _ q => ⟨hd ▸ q.1, q.2⟩) ?_
    refine dt.c (v := .int .u64 (m)) rfl (by kernel_rfl) rfl rfl rfl rfl ?_
    refine dt.c (v := .int .u64 (m % 128)) rfl (by kernel_rfl) rfl rfl (okI (Int.tmod_eq_emod_of_nonneg (by omega))) rfl ?_
    refine dt.c (v := .int .u8 (m % 128)) rfl (by kernel_rfl) rfl rfl (Eq.trans (b := some (.int .u8 (IntKind.u8.wrap (m % 128)))) (by kernel_rfl) (okI (wrap_u8 (by omega) (by omega)))) rfl ?_
    refine dt.c (v := .int .u8 (((hi8 (lo8 m)).toNat : Int))) rfl (by kernel_rfl) rfl rfl (okI (Eq.trans (wrap_u8 (by omega) (by omega)) (wrap_hi8 hm0))) rfl ?_
    refine dt.c (v := .int .u64 (m)) rfl (by kernel_rfl) rfl rfl rfl rfl ?_
    refine dt.c (v := .int .u64 (m / 128)) rfl (by kernel_rfl) rfl rfl (okI (quo_u64 (by omega) (by omega))) rfl ?_
    refine dt.f rfl (by kernel_rfl) rfl (by kernel_rfl) ?_ ?_
    · skip
      have z_n : h.get n = none := hf0 _ hn
      refine dt.op rfl (by kernel_rfl) rfl rfl (Does.build (e := 5) (cs := [.int .u8 (((hi8 (lo8 m)).toNat : Int))]) hf (fun _ _ => by kernel_rfl)) keepN ?_
      rintro _ h6 n7 ⟨rfl, hb5⟩ s8 hn2 hf
      refine dt.w ?_
      have hs := hs.trans s8
      have hn := Nat.le_trans hn hn2
      refine dt.gB (v := .string (⟨([hi8 (lo8 m)] : List UInt8).toArray⟩)) n rfl (by kernel_rfl) rfl rfl (fun _ q_ => (strOf_row (P := Tryz.prog) (a := 42) (b := 9) (e := 5) (v := .slice (some ⟨n, 0, none⟩) (1) (1)) (bs := [hi8 (lo8 m)]) (by kernel_rfl) (by kernel_rfl) (by kernel_rfl) (by kernel_rfl) (IsRow.of (E := encByte) (xs := [hi8 (lo8 m)]) (cap := 1) (q_ _ hb5) (Nat.le_refl _)))) rfl ?_
      refine dt.t (v := .string (strB (uvar (m / 128).toNat))) rfl (by kernel_rfl) rfl (CallsF.fn rfl (by kernel_rfl) rfl rfl) (fun hf => ih (by omega) _ _) hf rfl ?_
      intro n9 hn2 hf
      have hn := Nat.le_trans hn hn2
      refine dt.c (v := .string (⟨([hi8 (lo8 m)] : List UInt8).toArray⟩ ++ (strB (uvar (m / 128).toNat)))) rfl (by kernel_rfl) rfl rfl (add_str (a := ⟨([hi8 (lo8 m)] : List UInt8).toArray⟩) (b := strB (uvar (m / 128).toNat)) (by have e1 : (strB (uvar (m / 128).toNat)).data.toList.length = (uvar (m / 128).toNat).length := (by simp); show 1 + _ < _; omega)) rfl ?_
      refine dt.c (v := .string (⟨([hi8 (lo8 m)] : List UInt8).toArray⟩ ++ (strB (uvar (m / 128).toNat)))) rfl (by kernel_rfl) rfl rfl rfl rfl ?_
      refine dt.e ?_
      refine AWp.ret ?_
      -- end 2: ¬c1_1 F3
      refine ⟨rfl, [.string (⟨([hi8 (lo8 m)] : List UInt8).toArray⟩ ++ (strB (uvar (m / 128).toNat)))], rfl, .string (⟨([hi8 (lo8 m)] : List UInt8).toArray⟩ ++ (strB (uvar (m / 128).toNat))), rfl, hs, hn, ?_⟩
      rw [strB_add, uvar_ge (n := m) (by omega)]
      rfl
    · skip
      refine dt.t (v := .string (strB (uvar (m / 128).toNat))) rfl (by kernel_rfl) rfl (CallsF.fn rfl (by kernel_rfl) rfl rfl) (fun hf => ih (by omega) _ _) hf rfl ?_
      intro n10 hn2 hf
      have hn := Nat.le_trans hn hn2
      have z_n10 : h.get n10 = none := hf0 _ hn
      refine dt.op rfl (by kernel_rfl) rfl rfl (Does.build (e := 5) (cs := [.int .u8 (((hi8 (lo8 m)).toNat : Int))]) hf (fun _ _ => by kernel_rfl)) keepN ?_
      rintro _ h12 n13 ⟨rfl, hb11⟩ s14 hn2 hf
      refine dt.w ?_
      have hs := hs.trans s14
      have hn := Nat.le_trans hn hn2
      refine dt.gB (v := .string (⟨([hi8 (lo8 m)] : List UInt8).toArray⟩)) n10 rfl (by kernel_rfl) rfl rfl (fun _ q_ => (strOf_row (P := Tryz.prog) (a := 42) (b := 9) (e := 5) (v := .slice (some ⟨n10, 0, none⟩) (1) (1)) (bs := [hi8 (lo8 m)]) (by kernel_rfl) (by kernel_rfl) (by kernel_rfl) (by kernel_rfl) (IsRow.of (E := encByte) (xs := [hi8 (lo8 m)]) (cap := 1) (q_ _ hb11) (Nat.le_refl _)))) rfl ?_
      refine dt.c (v := .string (⟨([hi8 (lo8 m)] : List UInt8).toArray⟩ ++ (strB (uvar (m / 128).toNat)))) rfl (by kernel_rfl) rfl rfl (add_str (a := ⟨([hi8 (lo8 m)] : List UInt8).toArray⟩) (b := strB (uvar (m / 128).toNat)) (by have e1 : (strB (uvar (m / 128).toNat)).data.toList.length = (uvar (m / 128).toNat).length := (by simp); show 1 + _ < _; omega)) rfl ?_
      refine dt.c (v := .string (⟨([hi8 (lo8 m)] : List UInt8).toArray⟩ ++ (strB (uvar (m / 128).toNat)))) rfl (by kernel_rfl) rfl rfl rfl rfl ?_
      refine dt.e ?_
      refine AWp.ret ?_
      -- end 3: ¬c1_1 F3
      refine ⟨rfl, [.string (⟨([hi8 (lo8 m)] : List UInt8).toArray⟩ ++ (strB (uvar (m / 128).toNat)))], rfl, .string (⟨([hi8 (lo8 m)] : List UInt8).toArray⟩ ++ (strB (uvar (m / 128).toNat))), rfl, hs, hn, ?_⟩
      rw [strB_add, uvar_ge (n := m) (by omega)]
      rfl

end Go.Proofs.YtkpjfibpaojelaaGreatDoor
