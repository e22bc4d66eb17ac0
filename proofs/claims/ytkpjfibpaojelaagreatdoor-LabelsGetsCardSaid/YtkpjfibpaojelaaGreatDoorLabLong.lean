/- The guard of the statements: whether labels are more than a statement goes over. -/
import Derived.Test.YtkpjfibpaojelaaGreatDoorLabGet
namespace Go.Proofs.YtkpjfibpaojelaaGreatDoor
open Go Go.Abs
set_option maxRecDepth 100000
set_option maxHeartbeats 1000000

theorem f12_spec {h : Heap} {n : Nat} {l : Value} {ls : List Lab} (hl : IsLab h l ls) (hlen : ls.length < 9223372036854775808) :
    ACall Tryz.prog 12 #[l] h n fun r h' n' => ∃ b, r = .ret (.bool b) ∧ (b = false → ls.length < 500) ∧ h' = h ∧ n' = n := by
  obtain ⟨a, cp, rfl⟩ := hl.slice
  refine ACall.of_bodyV (args := [.slice a ls.length cp]) Tryz.func12 rfl rfl ?_
  refine AWp.seq ?_
  refine AWp.seq_region (l := _) pok ?_
  refine seqV.calm [_, _, _, _, _, _, _, _, _, _, _, _, _, _, _, _, _, _, _, _, _, _, _, _, _, _, _, _, _, _, _, _, _, _, _] (v := .bool _) rfl rfl rfl rfl ?_
  refine seqV.nil ?_
  refine AWp.seq ?_
  refine AWp.seq_region (l := _) pok ?_
  refine seqV.calm [_, _, _, _, _, _, _, _, _, _, _, _, _, _, _, _, _, _, _, _, _, _, _, _, _, _, _, _, _, _, _, _, _, _, _] (v := .int _ _) rfl rfl rfl rfl ?_
  refine seqV.nil ?_
  refine AWp.seq ?_
  refine AWp.seq ?_
  refine AWp.seq_region (l := _) pok ?_
  refine seqV.calm [_, _, _, _, _, _, _, _, _, _, _, _, _, _, _, _, _, _, _, _, _, _, _, _, _, _, _, _, _, _, _, _, _, _, _] (v := .int _ _) rfl rfl rfl rfl ?_
  refine seqV.nil ?_
  refine AWp.block ?_
  refine AWp.loopV (fun d vs h' n' => h' = h ∧ n' = n ∧ ∃ (i : Nat) (m : Int), d + i = ls.length + 1 ∧ 10 * (i : Int) ≤ m ∧ m < 20000 ∧ ∃ x1 x2 x5 x6 x7 x8 x9 x10 x11 x12 x13 x14 x15 x16 x17 x18 x19 x20 x21 x22 x23 x24 x25 x26 x27 x28 x29 x30 x31 x32 x33 x34, vs = [.slice a ls.length cp, x1, x2, .int .i64 m, .int .i64 (i : Nat), x5, x6, x7, x8, x9, x10, x11, x12, x13, x14, x15, x16, x17, x18, x19, x20, x21, x22, x23, x24, x25, x26, x27, x28, x29, x30, x31, x32, x33, x34])
    (ls.length + 1) ⟨rfl, rfl, 0, 0, rfl, by decide, by decide, _, _, _, _, _, _, _, _, _, _, _, _, _, _, _, _, _, _, _, _, _, _, _, _, _, _, _, _, _, _, _, _, rfl⟩ ?_
  rintro d vs h' n' ⟨rfl, rfl, i, m, hdi, hm0, hm1, x1, x2, x5, x6, x7, x8, x9, x10, x11, x12, x13, x14, x15, x16, x17, x18, x19, x20, x21, x22, x23, x24, x25, x26, x27, x28, x29, x30, x31, x32, x33, x34, rfl⟩
  refine AWp.seq ?_
  refine AWp.seq ?_
  refine AWp.seq_region (l := _) pok ?_
  refine seqV.calm [_, _, _, _, _, _, _, _, _, _, _, _, _, _, _, _, _, _, _, _, _, _, _, _, _, _, _, _, _, _, _, _, _, _, _] (v := .int _ _) rfl rfl rfl rfl ?_
  refine seqV.calm [_, _, _, _, _, _, _, _, _, _, _, _, _, _, _, _, _, _, _, _, _, _, _, _, _, _, _, _, _, _, _, _, _, _, _] (v := .slice _ _ _) rfl rfl rfl rfl ?_
  refine seqV.calm [_, _, _, _, _, _, _, _, _, _, _, _, _, _, _, _, _, _, _, _, _, _, _, _, _, _, _, _, _, _, _, _, _, _, _] (v := .int _ _) rfl rfl rfl rfl ?_
  by_cases hlt : (i : Int) < ls.length
  · refine seqV.calm [_, _, _, _, _, _, _, _, _, _, _, _, _, _, _, _, _, _, _, _, _, _, _, _, _, _, _, _, _, _, _, _, _, _, _] (v := .bool true) rfl rfl (by show some (Value.bool (decide ((i : Int) < ls.length))) = _; rw [decide_eq_true hlt]) rfl ?_
    refine seqV.calm [_, _, _, _, _, _, _, _, _, _, _, _, _, _, _, _, _, _, _, _, _, _, _, _, _, _, _, _, _, _, _, _, _, _, _] (v := .bool _) rfl rfl rfl rfl ?_
    refine seqV.calmG [_, _, _, _, _, _, _, _, _, _, _, _, _, _, _, _, _, _, _, _, _, _, _, _, _, _, _, _, _, _, _, _, _, _, _] (v := .int _ _) rfl rfl rfl rfl ?_
    by_cases hm : m < 5000
    · refine seqV.calmG [_, _, _, _, _, _, _, _, _, _, _, _, _, _, _, _, _, _, _, _, _, _, _, _, _, _, _, _, _, _, _, _, _, _, _] (v := .bool true) rfl rfl (by show some (Value.bool (decide (m < 5000))) = _; rw [decide_eq_true hm]) rfl ?_
      refine seqV.calm [_, _, _, _, _, _, _, _, _, _, _, _, _, _, _, _, _, _, _, _, _, _, _, _, _, _, _, _, _, _, _, _, _, _, _] (v := .bool true) rfl rfl rfl rfl ?_
      refine seqV.nil ?_
      refine AWp.testV rfl rfl ?_ (fun hc => by cases hc)
      intro _
      obtain ⟨x, hx⟩ : ∃ x, ls[i]? = some x := ⟨ls[i]'(by omega), List.getElem?_eq_getElem _⟩
      obtain ⟨b, o, cs, own, ci, q1, q2, q3, q4⟩ := hl.at hx
      obtain ⟨A, hA, hA0, hA1⟩ : ∃ A : Int, (if (5000 : Int) < (x.1.data.toList.length : Int) then (5000 : Int) else (x.1.data.toList.length : Int)) = A ∧ 0 ≤ A ∧ A ≤ 5000 := ⟨_, rfl, by split <;> omega, by split <;> omega⟩
      obtain ⟨B, hB, hB0, hB1⟩ : ∃ A : Int, (if (5000 : Int) < (x.2.data.toList.length : Int) then (5000 : Int) else (x.2.data.toList.length : Int)) = A ∧ 0 ≤ A ∧ A ≤ 5000 := ⟨_, rfl, by split <;> omega, by split <;> omega⟩
      refine AWp.skip ?_
      refine AWp.seq ?_
      refine AWp.block ?_
      refine AWp.calm_draw (l := _) pok (by kernel_rfl) (by kernel_rfl) (fun x fr fr' h n hd _ q => ⟨hd ▸ q.1, q.2⟩) ?_
      refine cW.calm [_, _, _, _, _, _, _, _, _, _, _, _, _, _, _, _, _, _, _, _, _, _, _, _, _, _, _, _, _, _, _, _, _, _, _] (v := .int _ _) rfl rfl rfl rfl rfl ?_
      refine cW.calm [_, _, _, _, _, _, _, _, _, _, _, _, _, _, _, _, _, _, _, _, _, _, _, _, _, _, _, _, _, _, _, _, _, _, _] (v := .int .i64 (m + 10)) rfl rfl rfl (by show some (Value.int .i64 (IntKind.wrap .i64 (m + 10))) = _; rw [wrap64_in (by omega) (by omega)]) rfl ?_
      refine cW.calm [_, _, _, _, _, _, _, _, _, _, _, _, _, _, _, _, _, _, _, _, _, _, _, _, _, _, _, _, _, _, _, _, _, _, _] (v := .slice _ _ _) rfl rfl rfl rfl rfl ?_
      refine cW.calm [_, _, _, _, _, _, _, _, _, _, _, _, _, _, _, _, _, _, _, _, _, _, _, _, _, _, _, _, _, _, _, _, _, _, _] (v := .int _ _) rfl rfl rfl rfl rfl ?_
      refine cW.index [_, _, _, _, _, _, _, _, _, _, _, _, _, _, _, _, _, _, _, _, _, _, _, _, _, _, _, _, _, _, _, _, _, _, _] rfl rfl rfl rfl rfl q1 rfl ?_
      refine cW.field [_, _, _, _, _, _, _, _, _, _, _, _, _, _, _, _, _, _, _, _, _, _, _, _, _, _, _, _, _, _, _, _, _, _, _] (off := 0) rfl (by kernel_rfl) rfl rfl rfl ?_
      refine cW.load [_, _, _, _, _, _, _, _, _, _, _, _, _, _, _, _, _, _, _, _, _, _, _, _, _, _, _, _, _, _, _, _, _, _, _] rfl (by kernel_rfl) (by kernel_rfl) rfl rfl q2 q3 rfl ?_
      refine cW.calm [_, _, _, _, _, _, _, _, _, _, _, _, _, _, _, _, _, _, _, _, _, _, _, _, _, _, _, _, _, _, _, _, _, _, _] (v := .int _ _) rfl rfl rfl rfl rfl ?_
      refine cW.calm [_, _, _, _, _, _, _, _, _, _, _, _, _, _, _, _, _, _, _, _, _, _, _, _, _, _, _, _, _, _, _, _, _, _, _] (v := .int .i64 A) rfl rfl rfl (by rw [← hA]; rfl) rfl ?_
      refine cW.calm [_, _, _, _, _, _, _, _, _, _, _, _, _, _, _, _, _, _, _, _, _, _, _, _, _, _, _, _, _, _, _, _, _, _, _] (v := .int .i64 (m + 10 + A)) rfl rfl rfl (by show some (Value.int .i64 (IntKind.wrap .i64 (m + 10 + A))) = _; rw [wrap64_in (by omega) (by omega)]) rfl ?_
      refine cW.calm [_, _, _, _, _, _, _, _, _, _, _, _, _, _, _, _, _, _, _, _, _, _, _, _, _, _, _, _, _, _, _, _, _, _, _] (v := .slice _ _ _) rfl rfl rfl rfl rfl ?_
      refine cW.calm [_, _, _, _, _, _, _, _, _, _, _, _, _, _, _, _, _, _, _, _, _, _, _, _, _, _, _, _, _, _, _, _, _, _, _] (v := .int _ _) rfl rfl rfl rfl rfl ?_
      refine cW.index [_, _, _, _, _, _, _, _, _, _, _, _, _, _, _, _, _, _, _, _, _, _, _, _, _, _, _, _, _, _, _, _, _, _, _] rfl rfl rfl rfl rfl q1 rfl ?_
      refine cW.field [_, _, _, _, _, _, _, _, _, _, _, _, _, _, _, _, _, _, _, _, _, _, _, _, _, _, _, _, _, _, _, _, _, _, _] (off := 1) rfl (by kernel_rfl) rfl rfl rfl ?_
      refine cW.load [_, _, _, _, _, _, _, _, _, _, _, _, _, _, _, _, _, _, _, _, _, _, _, _, _, _, _, _, _, _, _, _, _, _, _] rfl (by kernel_rfl) (by kernel_rfl) rfl rfl q2 q4 rfl ?_
      refine cW.calm [_, _, _, _, _, _, _, _, _, _, _, _, _, _, _, _, _, _, _, _, _, _, _, _, _, _, _, _, _, _, _, _, _, _, _] (v := .int _ _) rfl rfl rfl rfl rfl ?_
      refine cW.calm [_, _, _, _, _, _, _, _, _, _, _, _, _, _, _, _, _, _, _, _, _, _, _, _, _, _, _, _, _, _, _, _, _, _, _] (v := .int .i64 B) rfl rfl rfl (by rw [← hB]; rfl) rfl ?_
      refine cW.calm [_, _, _, _, _, _, _, _, _, _, _, _, _, _, _, _, _, _, _, _, _, _, _, _, _, _, _, _, _, _, _, _, _, _, _] (v := .int .i64 (m + 10 + A + B)) rfl rfl rfl (by show some (Value.int .i64 (IntKind.wrap .i64 (m + 10 + A + B))) = _; rw [wrap64_in (by omega) (by omega)]) rfl ?_
      refine cW.calm [_, _, _, _, _, _, _, _, _, _, _, _, _, _, _, _, _, _, _, _, _, _, _, _, _, _, _, _, _, _, _, _, _, _, _] (v := .int .i64 (m + 10 + A + B)) rfl rfl rfl rfl rfl ?_
      refine cW.nil ?_
      refine AWp.seq_region (l := _) pok ?_
      refine seqV.calm [_, _, _, _, _, _, _, _, _, _, _, _, _, _, _, _, _, _, _, _, _, _, _, _, _, _, _, _, _, _, _, _, _, _, _] (v := .int _ _) rfl rfl rfl rfl ?_
      refine seqV.calm [_, _, _, _, _, _, _, _, _, _, _, _, _, _, _, _, _, _, _, _, _, _, _, _, _, _, _, _, _, _, _, _, _, _, _] (v := .int .i64 ((i : Int) + 1)) rfl rfl (by show some (Value.int .i64 (IntKind.wrap .i64 ((i : Int) + 1))) = _; rw [wrap64_in (by omega) (by omega)]) rfl ?_
      refine seqV.calm [_, _, _, _, _, _, _, _, _, _, _, _, _, _, _, _, _, _, _, _, _, _, _, _, _, _, _, _, _, _, _, _, _, _, _] (v := .int .i64 ((i + 1 : Nat) : Int)) rfl rfl rfl rfl ?_
      refine seqV.nil ?_
      exact ⟨_, d - 1, rfl, by omega, rfl, rfl, i + 1, m + 10 + A + B, by omega, by omega, by omega, _, _, _, _, _, _, _, _, _, _, _, _, _, _, _, _, _, _, _, _, _, _, _, _, _, _, _, _, _, _, _, _, rfl⟩
    · refine seqV.calmG [_, _, _, _, _, _, _, _, _, _, _, _, _, _, _, _, _, _, _, _, _, _, _, _, _, _, _, _, _, _, _, _, _, _, _] (v := .bool false) rfl rfl (by show some (Value.bool (decide (m < 5000))) = _; rw [decide_eq_false hm]) rfl ?_
      refine seqV.calm [_, _, _, _, _, _, _, _, _, _, _, _, _, _, _, _, _, _, _, _, _, _, _, _, _, _, _, _, _, _, _, _, _, _, _] (v := .bool false) rfl rfl rfl rfl ?_
      refine seqV.nil ?_
      refine AWp.testV rfl rfl (fun hc => by cases hc) ?_
      intro _
      refine AWp.exit ?_
      refine AWp.seq ?_
      refine AWp.seq_region (l := _) pok ?_
      refine seqV.calm [_, _, _, _, _, _, _, _, _, _, _, _, _, _, _, _, _, _, _, _, _, _, _, _, _, _, _, _, _, _, _, _, _, _, _] (v := .int _ _) rfl rfl rfl rfl ?_
      refine seqV.calm [_, _, _, _, _, _, _, _, _, _, _, _, _, _, _, _, _, _, _, _, _, _, _, _, _, _, _, _, _, _, _, _, _, _, _] (v := .bool (decide ((5000 : Int) ≤ m))) rfl rfl rfl rfl ?_
      refine seqV.calm [_, _, _, _, _, _, _, _, _, _, _, _, _, _, _, _, _, _, _, _, _, _, _, _, _, _, _, _, _, _, _, _, _, _, _] (v := .bool _) rfl rfl rfl rfl ?_
      refine seqV.nil ?_
      refine AWp.ret ?_
      refine ⟨rfl, _, rfl, decide ((5000 : Int) ≤ m), rfl, fun hb => ?_, rfl, rfl⟩
      have hb' : ¬ (5000 : Int) ≤ m := by simpa using hb
      omega
  · refine seqV.calm [_, _, _, _, _, _, _, _, _, _, _, _, _, _, _, _, _, _, _, _, _, _, _, _, _, _, _, _, _, _, _, _, _, _, _] (v := .bool false) rfl rfl (by show some (Value.bool (decide ((i : Int) < ls.length))) = _; rw [decide_eq_false hlt]) rfl ?_
    refine seqV.calm [_, _, _, _, _, _, _, _, _, _, _, _, _, _, _, _, _, _, _, _, _, _, _, _, _, _, _, _, _, _, _, _, _, _, _] (v := .bool _) rfl rfl rfl rfl ?_
    refine seqV.skip [_, _, _, _, _, _, _, _, _, _, _, _, _, _, _, _, _, _, _, _, _, _, _, _, _, _, _, _, _, _, _, _, _, _, _] rfl rfl ?_
    refine seqV.skip [_, _, _, _, _, _, _, _, _, _, _, _, _, _, _, _, _, _, _, _, _, _, _, _, _, _, _, _, _, _, _, _, _, _, _] rfl rfl ?_
    refine seqV.calm [_, _, _, _, _, _, _, _, _, _, _, _, _, _, _, _, _, _, _, _, _, _, _, _, _, _, _, _, _, _, _, _, _, _, _] (v := .bool false) rfl rfl rfl rfl ?_
    refine seqV.nil ?_
    refine AWp.testV rfl rfl (fun hc => by cases hc) ?_
    intro _
    refine AWp.exit ?_
    refine AWp.seq ?_
    refine AWp.seq_region (l := _) pok ?_
    refine seqV.calm [_, _, _, _, _, _, _, _, _, _, _, _, _, _, _, _, _, _, _, _, _, _, _, _, _, _, _, _, _, _, _, _, _, _, _] (v := .int _ _) rfl rfl rfl rfl ?_
    refine seqV.calm [_, _, _, _, _, _, _, _, _, _, _, _, _, _, _, _, _, _, _, _, _, _, _, _, _, _, _, _, _, _, _, _, _, _, _] (v := .bool (decide ((5000 : Int) ≤ m))) rfl rfl rfl rfl ?_
    refine seqV.calm [_, _, _, _, _, _, _, _, _, _, _, _, _, _, _, _, _, _, _, _, _, _, _, _, _, _, _, _, _, _, _, _, _, _, _] (v := .bool _) rfl rfl rfl rfl ?_
    refine seqV.nil ?_
    refine AWp.ret ?_
    refine ⟨rfl, _, rfl, decide ((5000 : Int) ≤ m), rfl, fun hb => ?_, rfl, rfl⟩
    have hb' : ¬ (5000 : Int) ≤ m := by simpa using hb
    omega
end Go.Proofs.YtkpjfibpaojelaaGreatDoor
