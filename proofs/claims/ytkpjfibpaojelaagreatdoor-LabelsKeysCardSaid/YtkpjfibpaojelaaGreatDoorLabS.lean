/- labels: the program's reader: bits.Reader. -/
import Derived.Test.YtkpjfibpaojelaaGreatDoorLabR2
namespace Go.Proofs.YtkpjfibpaojelaaGreatDoor
open Go Go.Abs
set_option maxRecDepth 100000
set_option maxHeartbeats 4000000

/-- A number read: its value, where the reader stands then, what is wrong then. -/
def vrd (s : ByteArray) (p e most : Int) : Int × Int × Int :=
  if e = 0 then (if exE (rdN s p) = 0 then (if most < exN (rdN s p) then (0, p, 40) else (exN (rdN s p), exX (rdN s p) p, e)) else (0, p, exE (rdN s p))) else (0, p, e)
/-- Bytes read. -/
def raw (s : ByteArray) (p e n : Int) : ByteArray × Int × Int :=
  if e = 0 then (if ((s.data.toList.length : Nat) : Int) - p < n then (⟨#[]⟩, p, 8) else (sub s p (p + n), p + n, e)) else (⟨#[]⟩, p, e)
/-- A text read. -/
def txr (s : ByteArray) (p e most : Int) : ByteArray × Int × Int :=
  if e = 0 then (if (vrd s p e most).2.2 = 0 then (if ((s.data.toList.length : Nat) : Int) - (vrd s p e most).2.1 < (vrd s p e most).1 then (⟨#[]⟩, p, 8) else raw s (vrd s p e most).2.1 (vrd s p e most).2.2 (vrd s p e most).1) else (⟨#[]⟩, (vrd s p e most).2.1, (vrd s p e most).2.2)) else (⟨#[]⟩, p, e)
theorem exN_lt (s : ByteArray) (p : Int) : 0 ≤ exN (rdN s p) := by
  cases rdN s p with
  | error e => exact Int.le_refl _
  | ok q => show (0 : Int) ≤ (q.1 : Nat); omega
theorem vrd_at {s : ByteArray} {p e most : Int} (h0 : 0 ≤ p) (h1 : p ≤ (s.data.toList.length : Nat)) : 0 ≤ (vrd s p e most).2.1 ∧ (vrd s p e most).2.1 ≤ (s.data.toList.length : Nat) ∧ 0 ≤ (vrd s p e most).1 := by
  have h2 := exK_le (s := s) h0 h1
  have h3 := exN_lt s p
  unfold vrd
  split
  · split
    · rename_i he
      split
      · exact ⟨h0, h1, Int.le_refl _⟩
      · refine ⟨?_, ?_, h3⟩
        · show 0 ≤ exX (rdN s p) p; rw [ex_good he]; omega
        · show exX (rdN s p) p ≤ _; rw [ex_good he]; omega
    · exact ⟨h0, h1, Int.le_refl _⟩
  · exact ⟨h0, h1, Int.le_refl _⟩


/-- (*baton/bits.Reader).good -/
theorem f74_spec {h : Heap} {n : Nat} {b : Nat} {ci : CI} (s : ByteArray) (p e : Int) (hb : h.get b = some (.cells [.string s, .int .i64 p, .int .i64 e] true ci)) :
    Tells Tryz.prog 74 [.pointer (some ⟨b, 0, none⟩)] h n (.bool (decide (e = 0))) := by
  refine Makes.tells (Makes.free fun hf => ?_)
  have hs : SubBut h h ([]) := .refl _ _
  have hn : n ≤ n := Nat.le_refl _
  have hf0 := hf
  refine Makes.of_bodyV (args := [.pointer (some ⟨b, 0, none⟩)]) (vs := [.pointer (some ⟨b, 0, none⟩), undef, undef, undef, undef, undef, undef, undef, undef, undef, undef, undef]) Tryz.func74 rfl rfl ?_
  refine AWp.seq ?_
  refine AWp.rowV (l := _) pok ?_
  refine sq.c (v := .bool false) rfl rfl rfl rfl ?_
  refine sq.e ?_
  refine AWp.seq ?_
  refine AWp.rowV (l := _) pok ?_
  refine sq.c (v := .pointer (some ⟨b, 0, none⟩)) rfl rfl rfl rfl ?_
  refine sq.c (v := .bool true) rfl rfl (by kernel_rfl) rfl ?_
  refine sq.c (v := .bool true) rfl rfl rfl rfl ?_
  refine sq.c (v := .pointer (some ⟨b, 0, none⟩)) (wantT (g := 2) (d := 5) rfl rfl rfl) rfl rfl rfl ?_
  refine sq.c (v := .pointer (some ⟨b, 0, none⟩)) (wantT (g := 2) (d := 5) rfl rfl rfl) rfl rfl rfl ?_
  refine sq.c (v := .pointer (some ⟨b, 2, none⟩)) (wantT (g := 2) (d := 5) rfl rfl rfl) rfl (by kernel_rfl) rfl ?_
  refine sq.c (v := .int .i64 (e)) (wantT (g := 2) (d := 5) rfl rfl rfl) rfl (ld1 (P := Tryz.prog) (t := 26) (p := 2) (v := .int .i64 (e)) (by kernel_rfl) (by kernel_rfl) hb rfl) rfl ?_
  refine sq.c (v := .bool (decide (e = (0 : Int)))) (wantT (g := 2) (d := 5) rfl rfl rfl) rfl rfl rfl ?_
  refine sq.c (v := .bool (decide (e = (0 : Int)))) rfl rfl rfl rfl ?_
  refine sq.c (v := .bool (decide (e = (0 : Int)))) rfl rfl rfl rfl ?_
  refine sq.e ?_
  refine AWp.ret ?_
  -- end 1: 
  refine ⟨rfl, [.bool (decide (e = (0 : Int)))], rfl, .bool (decide (e = (0 : Int))), rfl, hs, hn, ?_⟩
  rfl

/-- (*baton/bits.Reader).Left -/
theorem f55_spec {h : Heap} {n : Nat} {b : Nat} {ci : CI} (s : ByteArray) (p e : Int) (hb : h.get b = some (.cells [.string s, .int .i64 p, .int .i64 e] true ci)) (hp0 : 0 ≤ p) (hp1 : p ≤ (s.data.toList.length : Nat)) (hls : s.data.toList.length < 9223372036854775807) :
    Tells Tryz.prog 55 [.pointer (some ⟨b, 0, none⟩)] h n (.int .i64 (((s.data.toList.length : Nat) : Int) - p)) := by
  refine Makes.tells (Makes.free fun hf => ?_)
  have hs : SubBut h h ([]) := .refl _ _
  have hn : n ≤ n := Nat.le_refl _
  have hf0 := hf
  refine Makes.of_bodyV (args := [.pointer (some ⟨b, 0, none⟩)]) (vs := [.pointer (some ⟨b, 0, none⟩), undef, undef, undef, undef, undef, undef, undef, undef, undef, undef, undef, undef, undef, undef]) Tryz.func55 rfl rfl ?_
  refine AWp.seq ?_
  refine AWp.rowV (l := _) pok ?_
  refine sq.c (v := .int .i64 (0)) rfl rfl rfl rfl ?_
  refine sq.e ?_
  refine AWp.seq ?_
  refine AWp.seq ?_
  refine AWp.rowV (l := _) pok ?_
  refine sq.c (v := .pointer (some ⟨b, 0, none⟩)) rfl rfl rfl rfl ?_
  refine sq.c (v := .bool false) rfl rfl (by kernel_rfl) rfl ?_
  refine sq.e ?_
  refine AWp.condF rfl rfl ?_
  refine AWp.skip ?_
  refine AWp.seq ?_
  refine AWp.anyV pok [] [0, 1, 2, 3, 4, 5, 6, 7, 8, 9, 10] (by kernel_rfl) (by kernel_rfl) rfl (fun x fr fr' h n hd _ q => ⟨hd ▸ q.1, q.2⟩) ?_
  refine dq.c (v := .pointer (some ⟨b, 0, none⟩)) rfl (by kernel_rfl) rfl rfl rfl rfl ?_
  refine dq.c (v := .pointer (some ⟨b, 0, none⟩)) rfl (by kernel_rfl) rfl rfl rfl rfl ?_
  refine dq.c (v := .pointer (some ⟨b, 0, none⟩)) rfl (by kernel_rfl) rfl rfl (by kernel_rfl) rfl ?_
  refine dq.g (v := .string (s)) rfl (by kernel_rfl) rfl rfl (ld1 (P := Tryz.prog) (t := 9) (p := 0) (v := .string (s)) (by kernel_rfl) (by kernel_rfl) hb rfl) rfl ?_
  refine dq.c (v := .int .i64 ((((s).data.toList.length : Nat) : Int))) rfl (by kernel_rfl) rfl rfl (by kernel_rfl) rfl ?_
  refine dq.c (v := .pointer (some ⟨b, 0, none⟩)) rfl (by kernel_rfl) rfl rfl rfl rfl ?_
  refine dq.c (v := .pointer (some ⟨b, 0, none⟩)) rfl (by kernel_rfl) rfl rfl rfl rfl ?_
  refine dq.c (v := .pointer (some ⟨b, 1, none⟩)) rfl (by kernel_rfl) rfl rfl (by kernel_rfl) rfl ?_
  refine dq.g (v := .int .i64 (p)) rfl (by kernel_rfl) rfl rfl (ld1 (P := Tryz.prog) (t := 3) (p := 1) (v := .int .i64 (p)) (by kernel_rfl) (by kernel_rfl) hb rfl) rfl ?_
  refine dq.c (v := .int .i64 (((((s).data.toList.length : Nat) : Int)) - p)) rfl (by kernel_rfl) rfl rfl (okI (wrap_i64 (by omega) (by omega))) rfl ?_
  refine dq.c (v := .int .i64 (((((s).data.toList.length : Nat) : Int)) - p)) rfl (by kernel_rfl) rfl rfl rfl rfl ?_
  refine dq.e ?_
  refine AWp.ret ?_
  -- end 1: 
  refine ⟨rfl, [.int .i64 (((((s).data.toList.length : Nat) : Int)) - p)], rfl, .int .i64 (((((s).data.toList.length : Nat) : Int)) - p), rfl, hs, hn, ?_⟩
  rfl

/-- (*baton/bits.Reader).Err -/
theorem f57_spec {h : Heap} {n : Nat} {b : Nat} {ci : CI} (s : ByteArray) (p e : Int) (hb : h.get b = some (.cells [.string s, .int .i64 p, .int .i64 e] true ci)) :
    Tells Tryz.prog 57 [.pointer (some ⟨b, 0, none⟩)] h n (.int .i64 e) := by
  refine Makes.tells (Makes.free fun hf => ?_)
  have hs : SubBut h h ([]) := .refl _ _
  have hn : n ≤ n := Nat.le_refl _
  have hf0 := hf
  refine Makes.of_bodyV (args := [.pointer (some ⟨b, 0, none⟩)]) (vs := [.pointer (some ⟨b, 0, none⟩), undef, undef, undef, undef, undef, undef, undef, undef]) Tryz.func57 rfl rfl ?_
  refine AWp.seq ?_
  refine AWp.rowV (l := _) pok ?_
  refine sq.c (v := .int .i64 (0)) rfl rfl rfl rfl ?_
  refine sq.e ?_
  refine AWp.seq ?_
  refine AWp.seq ?_
  refine AWp.rowV (l := _) pok ?_
  refine sq.c (v := .pointer (some ⟨b, 0, none⟩)) rfl rfl rfl rfl ?_
  refine sq.c (v := .bool false) rfl rfl (by kernel_rfl) rfl ?_
  refine sq.e ?_
  refine AWp.condF rfl rfl ?_
  refine AWp.skip ?_
  refine AWp.seq ?_
  refine AWp.rowV (l := _) pok ?_
  refine sq.c (v := .pointer (some ⟨b, 0, none⟩)) rfl rfl rfl rfl ?_
  refine sq.c (v := .pointer (some ⟨b, 0, none⟩)) rfl rfl rfl rfl ?_
  refine sq.c (v := .pointer (some ⟨b, 2, none⟩)) rfl rfl (by kernel_rfl) rfl ?_
  refine sq.c (v := .int .i64 (e)) rfl rfl (ld1 (P := Tryz.prog) (t := 26) (p := 2) (v := .int .i64 (e)) (by kernel_rfl) (by kernel_rfl) hb rfl) rfl ?_
  refine sq.c (v := .int .i64 (e)) rfl rfl rfl rfl ?_
  refine sq.e ?_
  refine AWp.ret ?_
  -- end 1: 
  refine ⟨rfl, [.int .i64 (e)], rfl, .int .i64 (e), rfl, hs, hn, ?_⟩
  rfl

/-- (*baton/bits.Reader).take -/
theorem f90_ok {h : Heap} {n : Nat} {b : Nat} {ci : CI} (s : ByteArray) (p e : Int) (hb : h.get b = some (.cells [.string s, .int .i64 p, .int .i64 e] true ci)) (x e2 : Int) (he : e2 = 0) :
    Makes Tryz.prog 90 [.pointer (some ⟨b, 0, none⟩), .int .i64 (x), .int .i64 (e2)] h n ([b]) (fun v h2 _ => v = .bool true ∧ h2.get b = some (.cells [.string s, .int .i64 x, .int .i64 e] true ci)) := by
  refine Makes.free fun hf => ?_
  have hs : SubBut h h ([b]) := .refl _ _
  have hn : n ≤ n := Nat.le_refl _
  have hf0 := hf
  refine Makes.of_bodyV (args := [.pointer (some ⟨b, 0, none⟩), .int .i64 (x), .int .i64 (e2)]) (vs := [.pointer (some ⟨b, 0, none⟩), .int .i64 (x), .int .i64 (e2), undef, undef, undef, undef, undef, undef, undef, undef, undef, undef, undef, undef, undef, undef]) Tryz.func90 rfl rfl ?_
  refine AWp.seq ?_
  refine AWp.rowV (l := _) pok ?_
  refine sq.c (v := .bool false) rfl rfl rfl rfl ?_
  refine sq.e ?_
  refine AWp.seq ?_
  refine AWp.seq ?_
  refine AWp.rowV (l := _) pok ?_
  refine sq.c (v := .int .i64 (e2)) rfl rfl rfl rfl ?_
  refine sq.c (v := .bool (!decide (e2 = (0 : Int)))) rfl rfl rfl rfl ?_
  refine sq.e ?_
  by_cases c1_1 : e2 = (0 : Int)
  · rw [decide_eq_true c1_1]
    refine AWp.condF rfl rfl ?_
    refine AWp.skip ?_
    refine AWp.seq ?_
    refine AWp.rowV (l := _) pok ?_
    refine sq.c (v := .pointer (some ⟨b, 0, none⟩)) rfl rfl rfl rfl ?_
    refine sq.c (v := .int .i64 (x)) rfl rfl rfl rfl ?_
    refine sq.c (v := .pointer (some ⟨b, 0, none⟩)) rfl rfl rfl rfl ?_
    refine sq.c (v := .pointer (some ⟨b, 1, none⟩)) rfl rfl (by kernel_rfl) rfl ?_
    refine sq.op rfl rfl (Does.store (k := 1) (xs := [.int .i64 (x)]) (cs' := [.string (s), .int .i64 (x), .int .i64 (e)]) hf (by kernel_rfl) rfl rfl rfl hb rfl rfl (Nat.le_of_ble_eq_true rfl) rfl) ?_
    rintro _ h2 n3 ⟨rfl, hb1⟩ s4 hn2 hf
    refine sq.w0 ?_
    have hs := hs.at (by simp) s4
    have hn := Nat.le_trans hn hn2
    refine sq.e ?_
    refine AWp.seq ?_
    refine AWp.rowV (l := _) pok ?_
    refine sq.c (v := .bool true) rfl rfl rfl rfl ?_
    refine sq.e ?_
    refine AWp.ret ?_
    -- end 1: c1_1
    refine ⟨rfl, [.bool true], rfl, .bool true, rfl, hs, hn, ?_⟩
    exact ⟨rfl, hb1⟩
  · exfalso
    omega

/-- (*baton/bits.Reader).take -/
theorem f90_bad {h : Heap} {n : Nat} {b : Nat} {ci : CI} (s : ByteArray) (p e : Int) (hb : h.get b = some (.cells [.string s, .int .i64 p, .int .i64 e] true ci)) (x e2 : Int) (he : ¬ e2 = 0) :
    Makes Tryz.prog 90 [.pointer (some ⟨b, 0, none⟩), .int .i64 (x), .int .i64 (e2)] h n ([b]) (fun v h2 _ => v = .bool false ∧ h2.get b = some (.cells [.string s, .int .i64 p, .int .i64 e2] true ci)) := by
  refine Makes.free fun hf => ?_
  have hs : SubBut h h ([b]) := .refl _ _
  have hn : n ≤ n := Nat.le_refl _
  have hf0 := hf
  refine Makes.of_bodyV (args := [.pointer (some ⟨b, 0, none⟩), .int .i64 (x), .int .i64 (e2)]) (vs := [.pointer (some ⟨b, 0, none⟩), .int .i64 (x), .int .i64 (e2), undef, undef, undef, undef, undef, undef, undef, undef, undef, undef, undef, undef, undef, undef]) Tryz.func90 rfl rfl ?_
  refine AWp.seq ?_
  refine AWp.rowV (l := _) pok ?_
  refine sq.c (v := .bool false) rfl rfl rfl rfl ?_
  refine sq.e ?_
  refine AWp.seq ?_
  refine AWp.seq ?_
  refine AWp.rowV (l := _) pok ?_
  refine sq.c (v := .int .i64 (e2)) rfl rfl rfl rfl ?_
  refine sq.c (v := .bool (!decide (e2 = (0 : Int)))) rfl rfl rfl rfl ?_
  refine sq.e ?_
  by_cases c1_1 : e2 = (0 : Int)
  · exfalso
    omega
  · rw [decide_eq_false c1_1]
    refine AWp.condT rfl rfl ?_
    refine AWp.seq ?_
    refine AWp.rowV (l := _) pok ?_
    refine sq.c (v := .pointer (some ⟨b, 0, none⟩)) rfl rfl rfl rfl ?_
    refine sq.c (v := .int .i64 (e2)) rfl rfl rfl rfl ?_
    refine sq.c (v := .pointer (some ⟨b, 0, none⟩)) rfl rfl rfl rfl ?_
    refine sq.c (v := .pointer (some ⟨b, 2, none⟩)) rfl rfl (by kernel_rfl) rfl ?_
    refine sq.op rfl rfl (Does.store (k := 1) (xs := [.int .i64 (e2)]) (cs' := [.string (s), .int .i64 (p), .int .i64 (e2)]) hf (by kernel_rfl) rfl rfl rfl hb rfl rfl (Nat.le_of_ble_eq_true rfl) rfl) ?_
    rintro _ h2 n3 ⟨rfl, hb1⟩ s4 hn2 hf
    refine sq.w0 ?_
    have hs := hs.at (by simp) s4
    have hn := Nat.le_trans hn hn2
    refine sq.e ?_
    refine AWp.seq ?_
    refine AWp.rowV (l := _) pok ?_
    refine sq.c (v := .bool false) rfl rfl rfl rfl ?_
    refine sq.e ?_
    refine AWp.ret ?_
    -- end 1: ¬c1_1
    refine ⟨rfl, [.bool false], rfl, .bool false, rfl, hs, hn, ?_⟩
    exact ⟨rfl, hb1⟩

/-- (*baton/bits.Reader).Varint -/
theorem f75_spec {h : Heap} {n : Nat} {b : Nat} {ci : CI} (s : ByteArray) (p e : Int) (hb : h.get b = some (.cells [.string s, .int .i64 p, .int .i64 e] true ci)) (hp0 : 0 ≤ p) (hp1 : p ≤ (s.data.toList.length : Nat)) (hls : s.data.toList.length < 9223372036854775807) (most : Int) :
    Makes Tryz.prog 75 [.pointer (some ⟨b, 0, none⟩), .int .u64 (most)] h n ([b]) (fun v h2 _ => v = .int .u64 ((vrd s p e most).1) ∧ h2.get b = some (.cells [.string s, .int .i64 (vrd s p e most).2.1, .int .i64 (vrd s p e most).2.2] true ci)) := by
  refine Makes.free fun hf => ?_
  have hs : SubBut h h ([b]) := .refl _ _
  have hn : n ≤ n := Nat.le_refl _
  have hf0 := hf
  refine Makes.of_bodyV (args := [.pointer (some ⟨b, 0, none⟩), .int .u64 (most)]) (vs := [.pointer (some ⟨b, 0, none⟩), .int .u64 (most), undef, undef, undef, undef, undef, undef, undef, undef, undef, undef, undef, undef, undef, undef, undef, undef, undef, undef, undef, undef, undef, undef, undef, undef, undef, undef, undef, undef, undef, undef, undef, undef, undef, undef, undef]) Tryz.func75 rfl rfl ?_
  refine AWp.seq ?_
  refine AWp.rowV (l := _) pok ?_
  refine sq.c (v := .int .u64 (0)) rfl rfl rfl rfl ?_
  refine sq.e ?_
  refine AWp.seq ?_
  refine AWp.seq ?_
  refine AWp.rowV (l := _) pok ?_
  refine sq.c (v := .pointer (some ⟨b, 0, none⟩)) rfl rfl rfl rfl ?_
  refine sq.t (v := .bool (decide (e = 0))) rfl (CallsF.fn rfl (by kernel_rfl) rfl rfl) (fun hf => f74_spec s p e hb) hf rfl ?_
  intro n1 hn2 hf
  have hn := Nat.le_trans hn hn2
  refine sq.c (v := .bool (!decide (e = 0))) rfl rfl rfl rfl ?_
  refine sq.e ?_
  by_cases c1_1 : e = 0
  · rw [decide_eq_true c1_1]
    refine AWp.condF rfl rfl ?_
    refine AWp.skip ?_
    refine AWp.seq ?_
    refine AWp.anyV pok [] [0, 1, 2, 3, 4, 5, 6, 7, 8, 9, 10, 11, 12, 13, 14, 15] (by kernel_rfl) (by kernel_rfl) rfl (fun x fr fr' h n hd _ q => ⟨hd ▸ q.1, q.2⟩) ?_
    refine dq.c (v := .pointer (some ⟨b, 0, none⟩)) rfl (by kernel_rfl) rfl rfl rfl rfl ?_
    refine dq.c (v := .pointer (some ⟨b, 0, none⟩)) rfl (by kernel_rfl) rfl rfl rfl rfl ?_
    refine dq.c (v := .pointer (some ⟨b, 0, none⟩)) rfl (by kernel_rfl) rfl rfl (by kernel_rfl) rfl ?_
    refine dq.g (v := .string (s)) rfl (by kernel_rfl) rfl rfl (ld1 (P := Tryz.prog) (t := 9) (p := 0) (v := .string (s)) (by kernel_rfl) (by kernel_rfl) hb rfl) rfl ?_
    refine dq.c (v := .pointer (some ⟨b, 0, none⟩)) rfl (by kernel_rfl) rfl rfl rfl rfl ?_
    refine dq.c (v := .pointer (some ⟨b, 0, none⟩)) rfl (by kernel_rfl) rfl rfl rfl rfl ?_
    refine dq.c (v := .pointer (some ⟨b, 1, none⟩)) rfl (by kernel_rfl) rfl rfl (by kernel_rfl) rfl ?_
    refine dq.g (v := .int .i64 (p)) rfl (by kernel_rfl) rfl rfl (ld1 (P := Tryz.prog) (t := 3) (p := 1) (v := .int .i64 (p)) (by kernel_rfl) (by kernel_rfl) hb rfl) rfl ?_
    refine dq.t (v := .tuple #[.int .u64 (exN (rdN s p)), .int .i64 (exX (rdN s p) p), .int .i64 (exE (rdN s p))]) rfl (by kernel_rfl) rfl (CallsF.fn rfl (by kernel_rfl) rfl rfl) (fun hf => f89_spec s p hp0 hp1 hls) hf rfl ?_
    intro n2 hn2 hf
    have hn := Nat.le_trans hn hn2
    refine dq.c (v := .tuple #[.int .u64 (exN (rdN s p)), .int .i64 (exX (rdN s p) p), .int .i64 (exE (rdN s p))]) rfl (by kernel_rfl) rfl rfl rfl rfl ?_
    refine dq.c (v := .int .u64 (exN (rdN s p))) rfl (by kernel_rfl) rfl rfl rfl rfl ?_
    refine dq.c (v := .int .i64 (exX (rdN s p) p)) rfl (by kernel_rfl) rfl rfl rfl rfl ?_
    refine dq.c (v := .int .i64 (exE (rdN s p))) rfl (by kernel_rfl) rfl rfl rfl rfl ?_
    refine dq.c (v := .int .u64 (exN (rdN s p))) rfl (by kernel_rfl) rfl rfl rfl rfl ?_
    refine dq.c (v := .int .i64 (exX (rdN s p) p)) rfl (by kernel_rfl) rfl rfl rfl rfl ?_
    refine dq.c (v := .int .i64 (exE (rdN s p))) rfl (by kernel_rfl) rfl rfl rfl rfl ?_
    refine dq.e ?_
    refine AWp.seq ?_
    refine AWp.seq ?_
    refine AWp.rowV (l := _) pok ?_
    refine sq.c (v := .int .i64 (exE (rdN s p))) rfl rfl rfl rfl ?_
    refine sq.c (v := .bool (decide ((exE (rdN s p)) = (0 : Int)))) rfl rfl rfl rfl ?_
    refine sq.c (v := .bool (decide ((exE (rdN s p)) = (0 : Int)))) rfl rfl rfl rfl ?_
    by_cases c4_1 : (exE (rdN s p)) = (0 : Int)
    · rw [decide_eq_true c4_1]
      refine sq.c (v := .int .u64 (exN (rdN s p))) (wantT (g := 2) (d := 26) rfl rfl rfl) rfl rfl rfl ?_
      refine sq.c (v := .int .u64 (most)) (wantT (g := 2) (d := 26) rfl rfl rfl) rfl rfl rfl ?_
      refine sq.c (v := .bool (decide (most < (exN (rdN s p))))) (wantT (g := 2) (d := 26) rfl rfl rfl) rfl rfl rfl ?_
      refine sq.c (v := .bool (decide (most < (exN (rdN s p))))) rfl rfl rfl rfl ?_
      refine sq.e ?_
      by_cases c4_5 : most < (exN (rdN s p))
      · rw [decide_eq_true c4_5]
        refine AWp.condT rfl rfl ?_
        refine AWp.rowV (l := _) pok ?_
        refine sq.c (v := .int .i64 (40)) rfl rfl rfl rfl ?_
        refine sq.e ?_
        refine AWp.seq ?_
        refine AWp.seq ?_
        refine AWp.rowV (l := _) pok ?_
        refine sq.c (v := .pointer (some ⟨b, 0, none⟩)) rfl rfl rfl rfl ?_
        refine sq.c (v := .int .i64 (exX (rdN s p) p)) rfl rfl rfl rfl ?_
        refine sq.c (v := .int .i64 (40)) rfl rfl rfl rfl ?_
        refine sq.k rfl (CallsF.fn rfl (by kernel_rfl) rfl rfl) (f90_bad s p e hb (exX (rdN s p) p) 40 (by decide)) ?_
        rintro _ h4 n5 ⟨rfl, hb3⟩ s6 hn2 hf
        refine sq.w ?_
        have hs := hs.at (by simp) s6
        have hn := Nat.le_trans hn hn2
        refine sq.c (v := .bool true) rfl rfl rfl rfl ?_
        refine sq.e ?_
        refine AWp.condT rfl rfl ?_
        refine AWp.seq ?_
        refine AWp.rowV (l := _) pok ?_
        refine sq.c (v := .int .u64 (0)) rfl rfl rfl rfl ?_
        refine sq.e ?_
        refine AWp.ret ?_
        -- end 1: c1_1 c4_1 c4_5
        refine ⟨rfl, [.int .u64 (0)], rfl, .int .u64 (0), rfl, hs, hn, ?_⟩
        have hv : vrd s p e most = (0, p, 40) := by unfold vrd; rw [if_pos c1_1, if_pos c4_1, if_pos c4_5]
        rw [hv]
        exact ⟨rfl, hb3⟩
      · rw [decide_eq_false c4_5]
        refine AWp.condF rfl rfl ?_
        refine AWp.skip ?_
        refine AWp.seq ?_
        refine AWp.seq ?_
        refine AWp.rowV (l := _) pok ?_
        refine sq.c (v := .pointer (some ⟨b, 0, none⟩)) rfl rfl rfl rfl ?_
        refine sq.c (v := .int .i64 (exX (rdN s p) p)) rfl rfl rfl rfl ?_
        refine sq.c (v := .int .i64 (exE (rdN s p))) rfl rfl rfl rfl ?_
        refine sq.k rfl (CallsF.fn rfl (by kernel_rfl) rfl rfl) (f90_ok s p e hb (exX (rdN s p) p) (exE (rdN s p)) c4_1) ?_
        rintro _ h8 n9 ⟨rfl, hb7⟩ s10 hn2 hf
        refine sq.w ?_
        have hs := hs.at (by simp) s10
        have hn := Nat.le_trans hn hn2
        refine sq.c (v := .bool false) rfl rfl rfl rfl ?_
        refine sq.e ?_
        refine AWp.condF rfl rfl ?_
        refine AWp.skip ?_
        refine AWp.seq ?_
        refine AWp.rowV (l := _) pok ?_
        refine sq.c (v := .int .u64 (exN (rdN s p))) rfl rfl rfl rfl ?_
        refine sq.c (v := .int .u64 (exN (rdN s p))) rfl rfl rfl rfl ?_
        refine sq.e ?_
        refine AWp.ret ?_
        -- end 2: c1_1 c4_1 ¬c4_5
        refine ⟨rfl, [.int .u64 (exN (rdN s p))], rfl, .int .u64 (exN (rdN s p)), rfl, hs, hn, ?_⟩
        have hv : vrd s p e most = (exN (rdN s p), exX (rdN s p) p, e) := by unfold vrd; rw [if_pos c1_1, if_pos c4_1, if_neg c4_5]
        rw [hv]
        exact ⟨rfl, hb7⟩
    · rw [decide_eq_false c4_1]
      refine sq.s (wantF (g := 2) (d := 26) rfl rfl rfl) rfl ?_
      refine sq.s (wantF (g := 2) (d := 26) rfl rfl rfl) rfl ?_
      refine sq.s (wantF (g := 2) (d := 26) rfl rfl rfl) rfl ?_
      refine sq.c (v := .bool false) rfl rfl rfl rfl ?_
      refine sq.e ?_
      refine AWp.condF rfl rfl ?_
      refine AWp.skip ?_
      refine AWp.seq ?_
      refine AWp.seq ?_
      refine AWp.rowV (l := _) pok ?_
      refine sq.c (v := .pointer (some ⟨b, 0, none⟩)) rfl rfl rfl rfl ?_
      refine sq.c (v := .int .i64 (exX (rdN s p) p)) rfl rfl rfl rfl ?_
      refine sq.c (v := .int .i64 (exE (rdN s p))) rfl rfl rfl rfl ?_
      refine sq.k rfl (CallsF.fn rfl (by kernel_rfl) rfl rfl) (f90_bad s p e hb (exX (rdN s p) p) (exE (rdN s p)) c4_1) ?_
      rintro _ h12 n13 ⟨rfl, hb11⟩ s14 hn2 hf
      refine sq.w ?_
      have hs := hs.at (by simp) s14
      have hn := Nat.le_trans hn hn2
      refine sq.c (v := .bool true) rfl rfl rfl rfl ?_
      refine sq.e ?_
      refine AWp.condT rfl rfl ?_
      refine AWp.seq ?_
      refine AWp.rowV (l := _) pok ?_
      refine sq.c (v := .int .u64 (0)) rfl rfl rfl rfl ?_
      refine sq.e ?_
      refine AWp.ret ?_
      -- end 3: c1_1 ¬c4_1
      refine ⟨rfl, [.int .u64 (0)], rfl, .int .u64 (0), rfl, hs, hn, ?_⟩
      have hv : vrd s p e most = (0, p, exE (rdN s p)) := by unfold vrd; rw [if_pos c1_1, if_neg c4_1]
      rw [hv]
      exact ⟨rfl, hb11⟩
  · rw [decide_eq_false c1_1]
    refine AWp.condT rfl rfl ?_
    refine AWp.seq ?_
    refine AWp.rowV (l := _) pok ?_
    refine sq.c (v := .int .u64 (0)) rfl rfl rfl rfl ?_
    refine sq.e ?_
    refine AWp.ret ?_
    -- end 4: ¬c1_1
    refine ⟨rfl, [.int .u64 (0)], rfl, .int .u64 (0), rfl, hs, hn, ?_⟩
    have hv : vrd s p e most = (0, p, e) := by unfold vrd; rw [if_neg c1_1]
    rw [hv]
    exact ⟨rfl, hb⟩

/-- (*baton/bits.Reader).Raw -/
theorem f76_spec {h : Heap} {n : Nat} {b : Nat} {ci : CI} (s : ByteArray) (p e : Int) (hb : h.get b = some (.cells [.string s, .int .i64 p, .int .i64 e] true ci)) (hp0 : 0 ≤ p) (hp1 : p ≤ (s.data.toList.length : Nat)) (hls : s.data.toList.length < 9223372036854775807) (n_ : Int) (hn0 : 0 ≤ n_) (hn1 : n_ < 9223372036854775808) :
    Makes Tryz.prog 76 [.pointer (some ⟨b, 0, none⟩), .int .i64 (n_)] h n ([b]) (fun v h2 _ => v = .string ((raw s p e n_).1) ∧ h2.get b = some (.cells [.string s, .int .i64 (raw s p e n_).2.1, .int .i64 (raw s p e n_).2.2] true ci)) := by
  refine Makes.free fun hf => ?_
  have hs : SubBut h h ([b]) := .refl _ _
  have hn : n ≤ n := Nat.le_refl _
  have hf0 := hf
  refine Makes.of_bodyV (args := [.pointer (some ⟨b, 0, none⟩), .int .i64 (n_)]) (vs := [.pointer (some ⟨b, 0, none⟩), .int .i64 (n_), undef, undef, undef, undef, undef, undef, undef, undef, undef, undef, undef, undef, undef, undef, undef, undef, undef, undef, undef, undef, undef, undef, undef, undef, undef, undef, undef, undef, undef, undef, undef, undef, undef, undef, undef, undef, undef, undef, undef, undef, undef, undef, undef, undef]) Tryz.func76 rfl rfl ?_
  refine AWp.seq ?_
  refine AWp.rowV (l := _) pok ?_
  refine sq.c (v := .string (⟨#[]⟩)) rfl rfl rfl rfl ?_
  refine sq.e ?_
  refine AWp.seq ?_
  refine AWp.block ?_
  refine AWp.seq ?_
  refine AWp.rowV (l := _) pok ?_
  refine sq.c (v := .pointer (some ⟨b, 0, none⟩)) rfl rfl rfl rfl ?_
  refine sq.t (v := .bool (decide (e = 0))) rfl (CallsF.fn rfl (by kernel_rfl) rfl rfl) (fun hf => f74_spec s p e hb) hf rfl ?_
  intro n1 hn2 hf
  have hn := Nat.le_trans hn hn2
  refine sq.c (v := .bool (!decide (e = 0))) rfl rfl rfl rfl ?_
  refine sq.c (v := .bool (!decide (e = 0))) rfl rfl rfl rfl ?_
  refine sq.e ?_
  by_cases c1_1 : e = 0
  · rw [decide_eq_true c1_1]
    refine AWp.condF rfl rfl ?_
    refine AWp.seq ?_
    refine AWp.rowV (l := _) pok ?_
    refine sq.c (v := .int .i64 (n_)) rfl rfl rfl rfl ?_
    refine sq.c (v := .bool (decide (n_ < (0 : Int)))) rfl rfl rfl rfl ?_
    refine sq.c (v := .bool (decide (n_ < (0 : Int)))) rfl rfl rfl rfl ?_
    refine sq.e ?_
    by_cases c3_1 : n_ < (0 : Int)
    · exfalso
      omega
    · rw [decide_eq_false c3_1]
      refine AWp.condF rfl rfl ?_
      refine AWp.seq ?_
      refine AWp.rowV (l := _) pok ?_
      refine sq.c (v := .pointer (some ⟨b, 0, none⟩)) rfl rfl rfl rfl ?_
      refine sq.t (v := .int .i64 (((s.data.toList.length : Nat) : Int) - p)) rfl (CallsF.fn rfl (by kernel_rfl) rfl rfl) (fun hf => f55_spec s p e hb (by omega) (by omega) hls) hf rfl ?_
      intro n2 hn2 hf
      have hn := Nat.le_trans hn hn2
      refine sq.c (v := .int .i64 (n_)) rfl rfl rfl rfl ?_
      refine sq.c (v := .bool (decide ((((s.data.toList.length : Nat) : Int) - p) < n_))) rfl rfl rfl rfl ?_
      refine sq.c (v := .bool (decide ((((s.data.toList.length : Nat) : Int) - p) < n_))) rfl rfl rfl rfl ?_
      refine sq.e ?_
      by_cases c6_3 : (((s.data.toList.length : Nat) : Int) - p) < n_
      · rw [decide_eq_true c6_3]
        refine AWp.condT rfl rfl ?_
        refine AWp.seq ?_
        refine AWp.rowV (l := _) pok ?_
        refine sq.c (v := .pointer (some ⟨b, 0, none⟩)) rfl rfl rfl rfl ?_
        refine sq.c (v := .pointer (some ⟨b, 0, none⟩)) rfl rfl rfl rfl ?_
        refine sq.c (v := .pointer (some ⟨b, 2, none⟩)) rfl rfl (by kernel_rfl) rfl ?_
        refine sq.op rfl rfl (Does.store (k := 1) (xs := [.int .i64 (8)]) (cs' := [.string (s), .int .i64 (p), .int .i64 (8)]) hf (by kernel_rfl) rfl rfl rfl hb rfl rfl (Nat.le_of_ble_eq_true rfl) rfl) ?_
        rintro _ h4 n5 ⟨rfl, hb3⟩ s6 hn2 hf
        refine sq.w0 ?_
        have hs := hs.at (by simp) s6
        have hn := Nat.le_trans hn hn2
        refine sq.e ?_
        refine AWp.seq ?_
        refine AWp.rowV (l := _) pok ?_
        refine sq.c (v := .string (⟨#[]⟩)) rfl rfl rfl rfl ?_
        refine sq.e ?_
        refine AWp.ret ?_
        -- end 1: c1_1 ¬c3_1 c6_3
        refine ⟨rfl, [.string (⟨#[]⟩)], rfl, .string (⟨#[]⟩), rfl, hs, hn, ?_⟩
        have hv : raw s p e n_ = (⟨#[]⟩, p, 8) := by unfold raw; rw [if_pos c1_1, if_pos c6_3]
        rw [hv]
        exact ⟨rfl, hb3⟩
      · rw [decide_eq_false c6_3]
        refine AWp.condF rfl rfl ?_
        refine AWp.skip ?_
        refine AWp.seq ?_
        refine AWp.rowV (l := _) pok ?_
        refine sq.c (v := .pointer (some ⟨b, 0, none⟩)) rfl rfl rfl rfl ?_
        refine sq.c (v := .pointer (some ⟨b, 0, none⟩)) rfl rfl rfl rfl ?_
        refine sq.c (v := .pointer (some ⟨b, 1, none⟩)) rfl rfl (by kernel_rfl) rfl ?_
        refine sq.c (v := .int .i64 (p)) rfl rfl (ld1 (P := Tryz.prog) (t := 3) (p := 1) (v := .int .i64 (p)) (by kernel_rfl) (by kernel_rfl) hb rfl) rfl ?_
        refine sq.c (v := .int .i64 (n_)) rfl rfl rfl rfl ?_
        refine sq.c (v := .int .i64 (p + n_)) rfl rfl (okI (wrap_i64 (by omega) (by omega))) rfl ?_
        refine sq.c (v := .pointer (some ⟨b, 0, none⟩)) rfl rfl rfl rfl ?_
        refine sq.c (v := .pointer (some ⟨b, 1, none⟩)) rfl rfl (by kernel_rfl) rfl ?_
        refine sq.op rfl rfl (Does.store (k := 1) (xs := [.int .i64 (p + n_)]) (cs' := [.string (s), .int .i64 (p + n_), .int .i64 (e)]) hf (by kernel_rfl) rfl rfl rfl hb rfl rfl (Nat.le_of_ble_eq_true rfl) rfl) ?_
        rintro _ h8 n9 ⟨rfl, hb7⟩ s10 hn2 hf
        refine sq.w0 ?_
        have hs := hs.at (by simp) s10
        have hn := Nat.le_trans hn hn2
        refine sq.e ?_
        refine AWp.seq ?_
        refine AWp.anyV pok [] [0, 1, 2, 3, 4, 5, 6, 7, 8, 9, 10, 11, 12, 13, 14, 15] (by kernel_rfl) (by kernel_rfl) rfl (fun x fr fr' h n hd _ q => ⟨hd ▸ q.1, q.2⟩) ?_
        refine dq.c (v := .pointer (some ⟨b, 0, none⟩)) rfl (by kernel_rfl) rfl rfl rfl rfl ?_
        refine dq.c (v := .pointer (some ⟨b, 0, none⟩)) rfl (by kernel_rfl) rfl rfl rfl rfl ?_
        refine dq.c (v := .pointer (some ⟨b, 0, none⟩)) rfl (by kernel_rfl) rfl rfl (by kernel_rfl) rfl ?_
        refine dq.g (v := .string (s)) rfl (by kernel_rfl) rfl rfl (ld1 (P := Tryz.prog) (t := 9) (p := 0) (v := .string (s)) (by kernel_rfl) (by kernel_rfl) hb7 rfl) rfl ?_
        refine dq.c (v := .pointer (some ⟨b, 0, none⟩)) rfl (by kernel_rfl) rfl rfl rfl rfl ?_
        refine dq.c (v := .pointer (some ⟨b, 0, none⟩)) rfl (by kernel_rfl) rfl rfl rfl rfl ?_
        refine dq.c (v := .pointer (some ⟨b, 1, none⟩)) rfl (by kernel_rfl) rfl rfl (by kernel_rfl) rfl ?_
        refine dq.g (v := .int .i64 (p + n_)) rfl (by kernel_rfl) rfl rfl (ld1 (P := Tryz.prog) (t := 3) (p := 1) (v := .int .i64 (p + n_)) (by kernel_rfl) (by kernel_rfl) hb7 rfl) rfl ?_
        refine dq.c (v := .int .i64 (n_)) rfl (by kernel_rfl) rfl rfl rfl rfl ?_
        refine dq.c (v := .int .i64 ((p + n_) - n_)) rfl (by kernel_rfl) rfl rfl (okI (wrap_i64 (by omega) (by omega))) rfl ?_
        refine dq.c (v := .pointer (some ⟨b, 0, none⟩)) rfl (by kernel_rfl) rfl rfl rfl rfl ?_
        refine dq.c (v := .pointer (some ⟨b, 0, none⟩)) rfl (by kernel_rfl) rfl rfl rfl rfl ?_
        refine dq.c (v := .pointer (some ⟨b, 1, none⟩)) rfl (by kernel_rfl) rfl rfl (by kernel_rfl) rfl ?_
        refine dq.g (v := .int .i64 (p + n_)) rfl (by kernel_rfl) rfl rfl (ld1 (P := Tryz.prog) (t := 3) (p := 1) (v := .int .i64 (p + n_)) (by kernel_rfl) (by kernel_rfl) hb7 rfl) rfl ?_
        refine dq.c (v := .string (sub (s) ((p + n_) - n_) (p + n_))) rfl (by kernel_rfl) rfl rfl (slice_str (P := Tryz.prog) (h := h8) (t := 9) (s := s) (l := (p + n_) - n_) (u := p + n_) (by kernel_rfl) (.inr ⟨_, rfl⟩) (.inr ⟨_, rfl⟩) (by omega) (by omega) (by omega)) rfl ?_
        refine dq.c (v := .string (sub (s) ((p + n_) - n_) (p + n_))) rfl (by kernel_rfl) rfl rfl rfl rfl ?_
        refine dq.e ?_
        refine AWp.ret ?_
        -- end 2: c1_1 ¬c3_1 ¬c6_3
        refine ⟨rfl, [.string (sub (s) ((p + n_) - n_) (p + n_))], rfl, .string (sub (s) ((p + n_) - n_) (p + n_)), rfl, hs, hn, ?_⟩
        have hv : raw s p e n_ = (sub s p (p + n_), p + n_, e) := by unfold raw; rw [if_pos c1_1, if_neg c6_3]
        rw [hv]
        refine ⟨?_, hb7⟩
        rw [show p + n_ - n_ = p by omega]
  · rw [decide_eq_false c1_1]
    refine AWp.condT rfl rfl ?_
    refine AWp.seq ?_
    refine AWp.rowV (l := _) pok ?_
    refine sq.c (v := .string (⟨#[]⟩)) rfl rfl rfl rfl ?_
    refine sq.e ?_
    refine AWp.ret ?_
    -- end 3: ¬c1_1
    refine ⟨rfl, [.string (⟨#[]⟩)], rfl, .string (⟨#[]⟩), rfl, hs, hn, ?_⟩
    have hv : raw s p e n_ = (⟨#[]⟩, p, e) := by unfold raw; rw [if_neg c1_1]
    rw [hv]
    exact ⟨rfl, hb⟩

/-- (*baton/bits.Reader).Text -/
theorem f56_spec {h : Heap} {n : Nat} {b : Nat} {ci : CI} (s : ByteArray) (p e : Int) (hb : h.get b = some (.cells [.string s, .int .i64 p, .int .i64 e] true ci)) (hp0 : 0 ≤ p) (hp1 : p ≤ (s.data.toList.length : Nat)) (hls : s.data.toList.length < 9223372036854775807) (most : Int) (hm0 : 0 ≤ most) (hm1 : most < 9223372036854775808) :
    Makes Tryz.prog 56 [.pointer (some ⟨b, 0, none⟩), .int .i64 (most)] h n ([b]) (fun v h2 _ => v = .string ((txr s p e most).1) ∧ h2.get b = some (.cells [.string s, .int .i64 (txr s p e most).2.1, .int .i64 (txr s p e most).2.2] true ci)) := by
  refine Makes.free fun hf => ?_
  have hv := vrd_at (s := s) (e := e) (most := most) hp0 hp1
  have hs : SubBut h h ([b]) := .refl _ _
  have hn : n ≤ n := Nat.le_refl _
  have hf0 := hf
  refine Makes.of_bodyV (args := [.pointer (some ⟨b, 0, none⟩), .int .i64 (most)]) (vs := [.pointer (some ⟨b, 0, none⟩), .int .i64 (most), undef, undef, undef, undef, undef, undef, undef, undef, undef, undef, undef, undef, undef, undef, undef, undef, undef, undef, undef, undef, undef, undef, undef, undef, undef, undef, undef, undef, undef, undef, undef, undef, undef, undef, undef, undef, undef, undef, undef, undef, undef, undef, undef, undef, undef]) Tryz.func56 rfl rfl ?_
  refine AWp.seq ?_
  refine AWp.rowV (l := _) pok ?_
  refine sq.c (v := .string (⟨#[]⟩)) rfl rfl rfl rfl ?_
  refine sq.e ?_
  refine AWp.seq ?_
  refine AWp.seq ?_
  refine AWp.rowV (l := _) pok ?_
  refine sq.c (v := .pointer (some ⟨b, 0, none⟩)) rfl rfl rfl rfl ?_
  refine sq.t (v := .bool (decide (e = 0))) rfl (CallsF.fn rfl (by kernel_rfl) rfl rfl) (fun hf => f74_spec s p e hb) hf rfl ?_
  intro n1 hn2 hf
  have hn := Nat.le_trans hn hn2
  refine sq.c (v := .bool (!decide (e = 0))) rfl rfl rfl rfl ?_
  refine sq.e ?_
  by_cases c1_1 : e = 0
  · rw [decide_eq_true c1_1]
    refine AWp.condF rfl rfl ?_
    refine AWp.skip ?_
    refine AWp.seq ?_
    refine AWp.rowV (l := _) pok ?_
    refine sq.c (v := .pointer (some ⟨b, 0, none⟩)) rfl rfl rfl rfl ?_
    refine sq.c (v := .pointer (some ⟨b, 0, none⟩)) rfl rfl rfl rfl ?_
    refine sq.c (v := .pointer (some ⟨b, 1, none⟩)) rfl rfl (by kernel_rfl) rfl ?_
    refine sq.c (v := .int .i64 (p)) rfl rfl (ld1 (P := Tryz.prog) (t := 3) (p := 1) (v := .int .i64 (p)) (by kernel_rfl) (by kernel_rfl) hb rfl) rfl ?_
    refine sq.c (v := .int .i64 (p)) rfl rfl rfl rfl ?_
    refine sq.e ?_
    refine AWp.seq ?_
    refine AWp.rowV (l := _) pok ?_
    refine sq.c (v := .pointer (some ⟨b, 0, none⟩)) rfl rfl rfl rfl ?_
    refine sq.c (v := .int .i64 (most)) rfl rfl rfl rfl ?_
    refine sq.c (v := .int .i64 (most)) rfl rfl (okI ((maxE _ _).trans (Int.max_eq_left hm0))) rfl ?_
    refine sq.c (v := .int .u64 (most)) rfl rfl (Eq.trans (b := some (.int .u64 (IntKind.u64.wrap (most)))) (by kernel_rfl) (okI (wrap_u64 (by omega) (by omega)))) rfl ?_
    refine sq.k rfl (CallsF.fn rfl (by kernel_rfl) rfl rfl) (f75_spec s p e hb hp0 hp1 hls most) ?_
    rintro _ h3 n4 ⟨rfl, hb2⟩ s5 hn2 hf
    refine sq.w ?_
    have hs := hs.at (by simp) s5
    have hn := Nat.le_trans hn hn2
    refine sq.c (v := .int .u64 ((vrd s p e most).1)) rfl rfl rfl rfl ?_
    refine sq.e ?_
    refine AWp.seq ?_
    refine AWp.seq ?_
    refine AWp.rowV (l := _) pok ?_
    refine sq.c (v := .pointer (some ⟨b, 0, none⟩)) rfl rfl rfl rfl ?_
    refine sq.c (v := .pointer (some ⟨b, 0, none⟩)) rfl rfl rfl rfl ?_
    refine sq.c (v := .pointer (some ⟨b, 2, none⟩)) rfl rfl (by kernel_rfl) rfl ?_
    refine sq.c (v := .int .i64 ((vrd s p e most).2.2)) rfl rfl (ld1 (P := Tryz.prog) (t := 26) (p := 2) (v := .int .i64 ((vrd s p e most).2.2)) (by kernel_rfl) (by kernel_rfl) hb2 rfl) rfl ?_
    refine sq.c (v := .bool (decide (((vrd s p e most).2.2) = (0 : Int)))) rfl rfl rfl rfl ?_
    refine sq.c (v := .bool (decide (((vrd s p e most).2.2) = (0 : Int)))) rfl rfl rfl rfl ?_
    by_cases c5_4 : ((vrd s p e most).2.2) = (0 : Int)
    · rw [decide_eq_true c5_4]
      refine sq.c (v := .pointer (some ⟨b, 0, none⟩)) (wantT (g := 5) (d := 24) rfl rfl rfl) rfl rfl rfl ?_
      refine sq.t (v := .int .i64 (((s.data.toList.length : Nat) : Int) - (vrd s p e most).2.1)) (wantT (g := 5) (d := 24) rfl rfl rfl) (CallsF.fn rfl (by kernel_rfl) rfl rfl) (fun hf => f55_spec s _ _ hb2 hv.1 hv.2.1 hls) hf rfl ?_
      intro n6 hn2 hf
      have hn := Nat.le_trans hn hn2
      refine sq.c (v := .int .u64 (((s.data.toList.length : Nat) : Int) - (vrd s p e most).2.1)) (wantT (g := 5) (d := 24) rfl rfl rfl) rfl (Eq.trans (b := some (.int .u64 (IntKind.u64.wrap (((s.data.toList.length : Nat) : Int) - (vrd s p e most).2.1)))) (by kernel_rfl) (okI (wrap_u64 (by omega) (by omega)))) rfl ?_
      refine sq.c (v := .int .u64 ((vrd s p e most).1)) (wantT (g := 5) (d := 24) rfl rfl rfl) rfl rfl rfl ?_
      refine sq.c (v := .bool (decide ((((s.data.toList.length : Nat) : Int) - (vrd s p e most).2.1) < ((vrd s p e most).1)))) (wantT (g := 5) (d := 24) rfl rfl rfl) rfl rfl rfl ?_
      refine sq.c (v := .bool (decide ((((s.data.toList.length : Nat) : Int) - (vrd s p e most).2.1) < ((vrd s p e most).1)))) rfl rfl rfl rfl ?_
      refine sq.e ?_
      by_cases c5_10 : (((s.data.toList.length : Nat) : Int) - (vrd s p e most).2.1) < ((vrd s p e most).1)
      · rw [decide_eq_true c5_10]
        refine AWp.condT rfl rfl ?_
        refine AWp.rowV (l := _) pok ?_
        refine sq.c (v := .pointer (some ⟨b, 0, none⟩)) rfl rfl rfl rfl ?_
        refine sq.c (v := .pointer (some ⟨b, 0, none⟩)) rfl rfl rfl rfl ?_
        refine sq.c (v := .int .i64 (p)) rfl rfl rfl rfl ?_
        refine sq.c (v := .pointer (some ⟨b, 0, none⟩)) rfl rfl rfl rfl ?_
        refine sq.c (v := .pointer (some ⟨b, 2, none⟩)) rfl rfl (by kernel_rfl) rfl ?_
        refine sq.op rfl rfl (Does.store (k := 1) (xs := [.int .i64 (8)]) (cs' := [.string (s), .int .i64 ((vrd s p e most).2.1), .int .i64 (8)]) hf (by kernel_rfl) rfl rfl rfl hb2 rfl rfl (Nat.le_of_ble_eq_true rfl) rfl) ?_
        rintro _ h8 n9 ⟨rfl, hb7⟩ s10 hn2 hf
        refine sq.w0 ?_
        have hs := hs.at (by simp) s10
        have hn := Nat.le_trans hn hn2
        refine sq.c (v := .pointer (some ⟨b, 0, none⟩)) rfl rfl rfl rfl ?_
        refine sq.c (v := .pointer (some ⟨b, 1, none⟩)) rfl rfl (by kernel_rfl) rfl ?_
        refine sq.op rfl rfl (Does.store (k := 1) (xs := [.int .i64 (p)]) (cs' := [.string (s), .int .i64 (p), .int .i64 (8)]) hf (by kernel_rfl) rfl rfl rfl hb7 rfl rfl (Nat.le_of_ble_eq_true rfl) rfl) ?_
        rintro _ h12 n13 ⟨rfl, hb11⟩ s14 hn2 hf
        refine sq.w0 ?_
        have hs := hs.at (by simp) s14
        have hn := Nat.le_trans hn hn2
        refine sq.e ?_
        refine AWp.seq ?_
        refine AWp.seq ?_
        refine AWp.rowV (l := _) pok ?_
        refine sq.c (v := .pointer (some ⟨b, 0, none⟩)) rfl rfl rfl rfl ?_
        refine sq.c (v := .pointer (some ⟨b, 0, none⟩)) rfl rfl rfl rfl ?_
        refine sq.c (v := .pointer (some ⟨b, 2, none⟩)) rfl rfl (by kernel_rfl) rfl ?_
        refine sq.c (v := .int .i64 (8)) rfl rfl (ld1 (P := Tryz.prog) (t := 26) (p := 2) (v := .int .i64 (8)) (by kernel_rfl) (by kernel_rfl) hb11 rfl) rfl ?_
        refine sq.c (v := .bool true) rfl rfl rfl rfl ?_
        refine sq.e ?_
        refine AWp.condT rfl rfl ?_
        refine AWp.seq ?_
        refine AWp.rowV (l := _) pok ?_
        refine sq.c (v := .string (⟨#[]⟩)) rfl rfl rfl rfl ?_
        refine sq.e ?_
        refine AWp.ret ?_
        -- end 1: c1_1 c5_4 c5_10
        refine ⟨rfl, [.string (⟨#[]⟩)], rfl, .string (⟨#[]⟩), rfl, hs, hn, ?_⟩
        have hv2 : txr s p e most = (⟨#[]⟩, p, 8) := by unfold txr; rw [if_pos c1_1, if_pos c5_4, if_pos c5_10]
        rw [hv2]
        exact ⟨rfl, hb11⟩
      · rw [decide_eq_false c5_10]
        refine AWp.condF rfl rfl ?_
        refine AWp.skip ?_
        refine AWp.seq ?_
        refine AWp.seq ?_
        refine AWp.rowV (l := _) pok ?_
        refine sq.c (v := .pointer (some ⟨b, 0, none⟩)) rfl rfl rfl rfl ?_
        refine sq.c (v := .pointer (some ⟨b, 0, none⟩)) rfl rfl rfl rfl ?_
        refine sq.c (v := .pointer (some ⟨b, 2, none⟩)) rfl rfl (by kernel_rfl) rfl ?_
        refine sq.c (v := .int .i64 ((vrd s p e most).2.2)) rfl rfl (ld1 (P := Tryz.prog) (t := 26) (p := 2) (v := .int .i64 ((vrd s p e most).2.2)) (by kernel_rfl) (by kernel_rfl) hb2 rfl) rfl ?_
        refine sq.c (v := .bool (!decide (((vrd s p e most).2.2) = (0 : Int)))) rfl rfl rfl rfl ?_
        refine sq.e ?_
        by_cases c7_4 : ((vrd s p e most).2.2) = (0 : Int)
        · rw [decide_eq_true c7_4]
          refine AWp.condF rfl rfl ?_
          refine AWp.skip ?_
          refine AWp.seq ?_
          refine AWp.rowV (l := _) pok ?_
          refine sq.c (v := .pointer (some ⟨b, 0, none⟩)) rfl rfl rfl rfl ?_
          refine sq.c (v := .int .u64 ((vrd s p e most).1)) rfl rfl rfl rfl ?_
          refine sq.c (v := .int .i64 ((vrd s p e most).1)) rfl rfl (Eq.trans (b := some (.int .i64 (IntKind.i64.wrap ((vrd s p e most).1)))) (by kernel_rfl) (okI (wrap_i64 (by omega) (by omega)))) rfl ?_
          refine sq.k rfl (CallsF.fn rfl (by kernel_rfl) rfl rfl) (f76_spec s _ _ hb2 hv.1 hv.2.1 hls _ hv.2.2 (by omega)) ?_
          rintro _ h16 n17 ⟨rfl, hb15⟩ s18 hn2 hf
          refine sq.w ?_
          have hs := hs.at (by simp) s18
          have hn := Nat.le_trans hn hn2
          refine sq.c (v := .string ((raw s (vrd s p e most).2.1 (vrd s p e most).2.2 (vrd s p e most).1).1)) rfl rfl rfl rfl ?_
          refine sq.e ?_
          refine AWp.ret ?_
          -- end 2: c1_1 c5_4 ¬c5_10 c7_4
          refine ⟨rfl, [.string ((raw s (vrd s p e most).2.1 (vrd s p e most).2.2 (vrd s p e most).1).1)], rfl, .string ((raw s (vrd s p e most).2.1 (vrd s p e most).2.2 (vrd s p e most).1).1), rfl, hs, hn, ?_⟩
          have hv2 : txr s p e most = raw s (vrd s p e most).2.1 (vrd s p e most).2.2 (vrd s p e most).1 := by unfold txr; rw [if_pos c1_1, if_pos c5_4, if_neg c5_10]
          rw [hv2]
          exact ⟨rfl, hb15⟩
        · exfalso
          omega
    · rw [decide_eq_false c5_4]
      refine sq.s (wantF (g := 5) (d := 24) rfl rfl rfl) rfl ?_
      refine sq.s (wantF (g := 5) (d := 24) rfl rfl rfl) rfl ?_
      refine sq.s (wantF (g := 5) (d := 24) rfl rfl rfl) rfl ?_
      refine sq.s (wantF (g := 5) (d := 24) rfl rfl rfl) rfl ?_
      refine sq.s (wantF (g := 5) (d := 24) rfl rfl rfl) rfl ?_
      refine sq.c (v := .bool false) rfl rfl rfl rfl ?_
      refine sq.e ?_
      refine AWp.condF rfl rfl ?_
      refine AWp.skip ?_
      refine AWp.seq ?_
      refine AWp.seq ?_
      refine AWp.rowV (l := _) pok ?_
      refine sq.c (v := .pointer (some ⟨b, 0, none⟩)) rfl rfl rfl rfl ?_
      refine sq.c (v := .pointer (some ⟨b, 0, none⟩)) rfl rfl rfl rfl ?_
      refine sq.c (v := .pointer (some ⟨b, 2, none⟩)) rfl rfl (by kernel_rfl) rfl ?_
      refine sq.c (v := .int .i64 ((vrd s p e most).2.2)) rfl rfl (ld1 (P := Tryz.prog) (t := 26) (p := 2) (v := .int .i64 ((vrd s p e most).2.2)) (by kernel_rfl) (by kernel_rfl) hb2 rfl) rfl ?_
      refine sq.c (v := .bool (!decide (((vrd s p e most).2.2) = (0 : Int)))) rfl rfl rfl rfl ?_
      refine sq.e ?_
      by_cases c7_4 : ((vrd s p e most).2.2) = (0 : Int)
      · exfalso
        omega
      · rw [decide_eq_false c7_4]
        refine AWp.condT rfl rfl ?_
        refine AWp.seq ?_
        refine AWp.rowV (l := _) pok ?_
        refine sq.c (v := .string (⟨#[]⟩)) rfl rfl rfl rfl ?_
        refine sq.e ?_
        refine AWp.ret ?_
        -- end 3: c1_1 ¬c5_4 ¬c7_4
        refine ⟨rfl, [.string (⟨#[]⟩)], rfl, .string (⟨#[]⟩), rfl, hs, hn, ?_⟩
        have hv2 : txr s p e most = (⟨#[]⟩, (vrd s p e most).2.1, (vrd s p e most).2.2) := by unfold txr; rw [if_pos c1_1, if_neg c5_4]
        rw [hv2]
        exact ⟨rfl, hb2⟩
  · rw [decide_eq_false c1_1]
    refine AWp.condT rfl rfl ?_
    refine AWp.seq ?_
    refine AWp.rowV (l := _) pok ?_
    refine sq.c (v := .string (⟨#[]⟩)) rfl rfl rfl rfl ?_
    refine sq.e ?_
    refine AWp.ret ?_
    -- end 4: ¬c1_1
    refine ⟨rfl, [.string (⟨#[]⟩)], rfl, .string (⟨#[]⟩), rfl, hs, hn, ?_⟩
    have hv2 : txr s p e most = (⟨#[]⟩, p, e) := by unfold txr; rw [if_neg c1_1]
    rw [hv2]
    exact ⟨rfl, hb⟩

end Go.Proofs.YtkpjfibpaojelaaGreatDoor
