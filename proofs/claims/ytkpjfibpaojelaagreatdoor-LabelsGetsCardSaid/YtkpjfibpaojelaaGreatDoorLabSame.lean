/- Same, of the document's packages: whether two lists of labels are the same. -/
import Derived.Test.YtkpjfibpaojelaaGreatDoorLabClone
namespace Go.Proofs.YtkpjfibpaojelaaGreatDoor
open Go Go.Abs
set_option maxRecDepth 100000
set_option maxHeartbeats 1000000

theorem eqS_iff {a b : ByteArray} : eqS a b = true ↔ a = b := by
  unfold eqS
  rw [beq_iff_eq]
  refine ⟨fun h => ByteArray.ext (Array.ext' h), fun h => by rw [h]⟩

theorem eqS_false {a b : ByteArray} (h : eqS a b = false) : a ≠ b := fun e => by rw [eqS_iff.2 e] at h; cases h

theorem f27_spec {h : Heap} {n : Nat} {v w : Value} {as_ bs : List Lab} (hv : IsLab h v as_) (hw : IsLab h w bs) (hlen : as_.length < 1000000) (hlen2 : bs.length < 1000000) :
    ACall Tryz.prog 27 #[v, w] h n fun r h' n' => r = .ret (.bool (decide (as_ = bs))) ∧ h' = h ∧ n ≤ n' := by
  obtain ⟨a, cp, rfl⟩ := hv.slice
  obtain ⟨b, cq, rfl⟩ := hw.slice
  refine ACall.of_bodyV (args := [.slice a as_.length cp, .slice b bs.length cq]) Tryz.func27 rfl rfl ?_
  refine AWp.seq ?_
  refine AWp.seq_region (l := _) pok ?_
  refine seqV.calm [_, _, _, _, _, _, _, _, _, _, _, _, _, _, _, _, _, _, _, _, _, _, _, _, _, _, _, _, _, _, _, _, _, _, _, _, _, _, _, _, _] (v := .bool _) rfl rfl rfl rfl ?_
  refine seqV.nil ?_
  refine AWp.seq ?_
  refine AWp.seq ?_
  refine AWp.seq_region (l := _) pok ?_
  refine seqV.calm [_, _, _, _, _, _, _, _, _, _, _, _, _, _, _, _, _, _, _, _, _, _, _, _, _, _, _, _, _, _, _, _, _, _, _, _, _, _, _, _, _] (v := .slice _ _ _) rfl rfl rfl rfl ?_
  refine seqV.calm [_, _, _, _, _, _, _, _, _, _, _, _, _, _, _, _, _, _, _, _, _, _, _, _, _, _, _, _, _, _, _, _, _, _, _, _, _, _, _, _, _] (v := .int _ _) rfl rfl rfl rfl ?_
  refine seqV.calm [_, _, _, _, _, _, _, _, _, _, _, _, _, _, _, _, _, _, _, _, _, _, _, _, _, _, _, _, _, _, _, _, _, _, _, _, _, _, _, _, _] (v := .slice _ _ _) rfl rfl rfl rfl ?_
  refine seqV.calm [_, _, _, _, _, _, _, _, _, _, _, _, _, _, _, _, _, _, _, _, _, _, _, _, _, _, _, _, _, _, _, _, _, _, _, _, _, _, _, _, _] (v := .int _ _) rfl rfl rfl rfl ?_
  refine seqV.calm [_, _, _, _, _, _, _, _, _, _, _, _, _, _, _, _, _, _, _, _, _, _, _, _, _, _, _, _, _, _, _, _, _, _, _, _, _, _, _, _, _] (v := .bool (!decide ((as_.length : Int) = bs.length))) rfl rfl rfl rfl ?_
  refine seqV.nil ?_
  refine AWp.testV rfl rfl ?_ ?_
  · intro hc
    have hne : as_.length ≠ bs.length := by
      have : ¬ (as_.length : Int) = bs.length := by simpa using hc
      omega
    refine AWp.seq ?_
    refine AWp.seq_region (l := _) pok ?_
    refine seqV.calm [_, _, _, _, _, _, _, _, _, _, _, _, _, _, _, _, _, _, _, _, _, _, _, _, _, _, _, _, _, _, _, _, _, _, _, _, _, _, _, _, _] (v := .bool _) rfl rfl rfl rfl ?_
    refine seqV.nil ?_
    refine AWp.ret ?_
    refine ⟨rfl, _, rfl, ?_, rfl, Nat.le_refl _⟩
    have hd : decide (as_ = bs) = false := decide_eq_false fun e => hne (by rw [e])
    rw [hd]
    rfl
  · intro hc
    have heq : as_.length = bs.length := by
      have : (as_.length : Int) = bs.length := by simpa using hc
      omega
    refine AWp.skip ?_
    refine AWp.seq ?_
    refine AWp.seq ?_
    refine AWp.seq_region (l := _) pok ?_
    refine seqV.calm [_, _, _, _, _, _, _, _, _, _, _, _, _, _, _, _, _, _, _, _, _, _, _, _, _, _, _, _, _, _, _, _, _, _, _, _, _, _, _, _, _] (v := .int _ _) rfl rfl rfl rfl ?_
    refine seqV.nil ?_
    refine AWp.block ?_
    refine AWp.loopV (fun d vs h' n' => h' = h ∧ n' = n ∧ ∃ i : Nat, d + i = as_.length + 1 ∧ (∀ j, j < i → as_[j]? = bs[j]?) ∧ ∃ x2 x3 x4 x6 x7 x8 x9 x10 x11 x12 x13 x14 x15 x16 x17 x18 x19 x20 x21 x22 x23 x24 x25 x26 x27 x28 x29 x30 x31 x32 x33 x34 x35 x36 x37 x38 x39 x40, vs = [.slice a as_.length cp, .slice b bs.length cq, x2, x3, x4, .int .i64 (i : Nat), x6, x7, x8, x9, x10, x11, x12, x13, x14, x15, x16, x17, x18, x19, x20, x21, x22, x23, x24, x25, x26, x27, x28, x29, x30, x31, x32, x33, x34, x35, x36, x37, x38, x39, x40]) (as_.length + 1) ⟨rfl, rfl, 0, rfl, (fun j hj => by omega), _, _, _, _, _, _, _, _, _, _, _, _, _, _, _, _, _, _, _, _, _, _, _, _, _, _, _, _, _, _, _, _, _, _, _, _, _, _, rfl⟩ ?_
    rintro d vs h' n' ⟨rfl, rfl, i, hdi, hsame, x2, x3, x4, x6, x7, x8, x9, x10, x11, x12, x13, x14, x15, x16, x17, x18, x19, x20, x21, x22, x23, x24, x25, x26, x27, x28, x29, x30, x31, x32, x33, x34, x35, x36, x37, x38, x39, x40, rfl⟩
    clear hc
    refine AWp.seq ?_
    refine AWp.seq ?_
    refine AWp.seq_region (l := _) pok ?_
    refine seqV.calm [_, _, _, _, _, _, _, _, _, _, _, _, _, _, _, _, _, _, _, _, _, _, _, _, _, _, _, _, _, _, _, _, _, _, _, _, _, _, _, _, _] (v := .int _ _) rfl rfl rfl rfl ?_
    refine seqV.calm [_, _, _, _, _, _, _, _, _, _, _, _, _, _, _, _, _, _, _, _, _, _, _, _, _, _, _, _, _, _, _, _, _, _, _, _, _, _, _, _, _] (v := .slice _ _ _) rfl rfl rfl rfl ?_
    refine seqV.calm [_, _, _, _, _, _, _, _, _, _, _, _, _, _, _, _, _, _, _, _, _, _, _, _, _, _, _, _, _, _, _, _, _, _, _, _, _, _, _, _, _] (v := .int _ _) rfl rfl rfl rfl ?_
    refine seqV.calm [_, _, _, _, _, _, _, _, _, _, _, _, _, _, _, _, _, _, _, _, _, _, _, _, _, _, _, _, _, _, _, _, _, _, _, _, _, _, _, _, _] (v := .bool _) rfl rfl rfl rfl ?_
    refine seqV.nil ?_
    refine AWp.testV rfl rfl ?_ ?_
    · intro hc
      have hlt : (i : Int) < as_.length := by simpa using hc
      clear hc
      obtain ⟨x, hx⟩ : ∃ x, as_[i]? = some x := ⟨as_[i]'(by omega), List.getElem?_eq_getElem _⟩
      obtain ⟨y, hy⟩ : ∃ y, bs[i]? = some y := ⟨bs[i]'(by omega), List.getElem?_eq_getElem _⟩
      obtain ⟨pb, po, pcs, pown, pci, q1, q2, q3, q4⟩ := hv.at hx
      obtain ⟨rb, ro, rcs, rown, rci, r1, r2, r3, r4⟩ := hw.at hy
      refine AWp.skip ?_
      refine AWp.seq ?_
      refine AWp.block ?_
      refine AWp.seq ?_
      refine AWp.calm_draw (l := _) pok (by kernel_rfl) (by kernel_rfl) (fun x fr fr' h n hd _ q => ⟨hd ▸ q.1, q.2⟩) ?_
      refine cW.calm [_, _, _, _, _, _, _, _, _, _, _, _, _, _, _, _, _, _, _, _, _, _, _, _, _, _, _, _, _, _, _, _, _, _, _, _, _, _, _, _, _] (v := .slice _ _ _) rfl rfl rfl rfl rfl ?_
      refine cW.calm [_, _, _, _, _, _, _, _, _, _, _, _, _, _, _, _, _, _, _, _, _, _, _, _, _, _, _, _, _, _, _, _, _, _, _, _, _, _, _, _, _] (v := .int _ _) rfl rfl rfl rfl rfl ?_
      refine cW.index [_, _, _, _, _, _, _, _, _, _, _, _, _, _, _, _, _, _, _, _, _, _, _, _, _, _, _, _, _, _, _, _, _, _, _, _, _, _, _, _, _] rfl rfl rfl rfl rfl q1 rfl ?_
      refine cW.field [_, _, _, _, _, _, _, _, _, _, _, _, _, _, _, _, _, _, _, _, _, _, _, _, _, _, _, _, _, _, _, _, _, _, _, _, _, _, _, _, _] (off := 0) rfl (by kernel_rfl) rfl rfl rfl ?_
      refine cW.load [_, _, _, _, _, _, _, _, _, _, _, _, _, _, _, _, _, _, _, _, _, _, _, _, _, _, _, _, _, _, _, _, _, _, _, _, _, _, _, _, _] rfl (by kernel_rfl) (by kernel_rfl) rfl rfl q2 q3 rfl ?_
      refine cW.calm [_, _, _, _, _, _, _, _, _, _, _, _, _, _, _, _, _, _, _, _, _, _, _, _, _, _, _, _, _, _, _, _, _, _, _, _, _, _, _, _, _] (v := .slice _ _ _) rfl rfl rfl rfl rfl ?_
      refine cW.calm [_, _, _, _, _, _, _, _, _, _, _, _, _, _, _, _, _, _, _, _, _, _, _, _, _, _, _, _, _, _, _, _, _, _, _, _, _, _, _, _, _] (v := .int _ _) rfl rfl rfl rfl rfl ?_
      refine cW.index [_, _, _, _, _, _, _, _, _, _, _, _, _, _, _, _, _, _, _, _, _, _, _, _, _, _, _, _, _, _, _, _, _, _, _, _, _, _, _, _, _] rfl rfl rfl rfl rfl r1 rfl ?_
      refine cW.field [_, _, _, _, _, _, _, _, _, _, _, _, _, _, _, _, _, _, _, _, _, _, _, _, _, _, _, _, _, _, _, _, _, _, _, _, _, _, _, _, _] (off := 0) rfl (by kernel_rfl) rfl rfl rfl ?_
      refine cW.load [_, _, _, _, _, _, _, _, _, _, _, _, _, _, _, _, _, _, _, _, _, _, _, _, _, _, _, _, _, _, _, _, _, _, _, _, _, _, _, _, _] rfl (by kernel_rfl) (by kernel_rfl) rfl rfl r2 r3 rfl ?_
      by_cases he : eqS x.1 y.1 = true
      · refine cW.calm [_, _, _, _, _, _, _, _, _, _, _, _, _, _, _, _, _, _, _, _, _, _, _, _, _, _, _, _, _, _, _, _, _, _, _, _, _, _, _, _, _] (v := .bool false) rfl rfl rfl (by show some (Value.bool (!eqS x.1 y.1)) = _; rw [he]; rfl) rfl ?_
        refine cW.calm [_, _, _, _, _, _, _, _, _, _, _, _, _, _, _, _, _, _, _, _, _, _, _, _, _, _, _, _, _, _, _, _, _, _, _, _, _, _, _, _, _] (v := .bool _) rfl rfl rfl rfl rfl ?_
        refine cW.calm [_, _, _, _, _, _, _, _, _, _, _, _, _, _, _, _, _, _, _, _, _, _, _, _, _, _, _, _, _, _, _, _, _, _, _, _, _, _, _, _, _] (v := .slice _ _ _) rfl rfl rfl rfl rfl ?_
        refine cW.calm [_, _, _, _, _, _, _, _, _, _, _, _, _, _, _, _, _, _, _, _, _, _, _, _, _, _, _, _, _, _, _, _, _, _, _, _, _, _, _, _, _] (v := .int _ _) rfl rfl rfl rfl rfl ?_
        refine cW.index [_, _, _, _, _, _, _, _, _, _, _, _, _, _, _, _, _, _, _, _, _, _, _, _, _, _, _, _, _, _, _, _, _, _, _, _, _, _, _, _, _] rfl rfl rfl rfl rfl q1 rfl ?_
        refine cW.field [_, _, _, _, _, _, _, _, _, _, _, _, _, _, _, _, _, _, _, _, _, _, _, _, _, _, _, _, _, _, _, _, _, _, _, _, _, _, _, _, _] (off := 1) rfl (by kernel_rfl) rfl rfl rfl ?_
        refine cW.load [_, _, _, _, _, _, _, _, _, _, _, _, _, _, _, _, _, _, _, _, _, _, _, _, _, _, _, _, _, _, _, _, _, _, _, _, _, _, _, _, _] rfl (by kernel_rfl) (by kernel_rfl) rfl rfl q2 q4 rfl ?_
        refine cW.calm [_, _, _, _, _, _, _, _, _, _, _, _, _, _, _, _, _, _, _, _, _, _, _, _, _, _, _, _, _, _, _, _, _, _, _, _, _, _, _, _, _] (v := .slice _ _ _) rfl rfl rfl rfl rfl ?_
        refine cW.calm [_, _, _, _, _, _, _, _, _, _, _, _, _, _, _, _, _, _, _, _, _, _, _, _, _, _, _, _, _, _, _, _, _, _, _, _, _, _, _, _, _] (v := .int _ _) rfl rfl rfl rfl rfl ?_
        refine cW.index [_, _, _, _, _, _, _, _, _, _, _, _, _, _, _, _, _, _, _, _, _, _, _, _, _, _, _, _, _, _, _, _, _, _, _, _, _, _, _, _, _] rfl rfl rfl rfl rfl r1 rfl ?_
        refine cW.field [_, _, _, _, _, _, _, _, _, _, _, _, _, _, _, _, _, _, _, _, _, _, _, _, _, _, _, _, _, _, _, _, _, _, _, _, _, _, _, _, _] (off := 1) rfl (by kernel_rfl) rfl rfl rfl ?_
        refine cW.load [_, _, _, _, _, _, _, _, _, _, _, _, _, _, _, _, _, _, _, _, _, _, _, _, _, _, _, _, _, _, _, _, _, _, _, _, _, _, _, _, _] rfl (by kernel_rfl) (by kernel_rfl) rfl rfl r2 r4 rfl ?_
        by_cases he2 : eqS x.2 y.2 = true
        · refine cW.calm [_, _, _, _, _, _, _, _, _, _, _, _, _, _, _, _, _, _, _, _, _, _, _, _, _, _, _, _, _, _, _, _, _, _, _, _, _, _, _, _, _] (v := .bool false) rfl rfl rfl (by show some (Value.bool (!eqS x.2 y.2)) = _; rw [he2]; rfl) rfl ?_
          refine cW.calm [_, _, _, _, _, _, _, _, _, _, _, _, _, _, _, _, _, _, _, _, _, _, _, _, _, _, _, _, _, _, _, _, _, _, _, _, _, _, _, _, _] (v := .bool false) rfl rfl rfl rfl rfl ?_
          refine cW.nil ?_
          refine AWp.testV rfl rfl (fun hc => by cases hc) ?_
          intro hc
          refine AWp.skip ?_
          refine AWp.seq_region (l := _) pok ?_
          refine seqV.calm [_, _, _, _, _, _, _, _, _, _, _, _, _, _, _, _, _, _, _, _, _, _, _, _, _, _, _, _, _, _, _, _, _, _, _, _, _, _, _, _, _] (v := .int _ _) rfl rfl rfl rfl ?_
          refine seqV.calm [_, _, _, _, _, _, _, _, _, _, _, _, _, _, _, _, _, _, _, _, _, _, _, _, _, _, _, _, _, _, _, _, _, _, _, _, _, _, _, _, _] (v := .int .i64 ((i : Int) + 1)) rfl rfl (by show some (Value.int .i64 (IntKind.wrap .i64 ((i : Int) + 1))) = _; rw [wrap64_in (by omega) (by omega)]) rfl ?_
          refine seqV.calm [_, _, _, _, _, _, _, _, _, _, _, _, _, _, _, _, _, _, _, _, _, _, _, _, _, _, _, _, _, _, _, _, _, _, _, _, _, _, _, _, _] (v := .int .i64 ((i + 1 : Nat) : Int)) rfl rfl rfl rfl ?_
          refine seqV.nil ?_
          refine ⟨_, d - 1, rfl, by omega, rfl, rfl, i + 1, by omega, ?_, _, _, _, _, _, _, _, _, _, _, _, _, _, _, _, _, _, _, _, _, _, _, _, _, _, _, _, _, _, _, _, _, _, _, _, _, _, _, rfl⟩
          intro j hj
          by_cases e : j = i
          · rw [e, hx, hy]
            have e1 := eqS_iff.1 he
            have e2 := eqS_iff.1 he2
            congr 1
            exact Prod.ext e1 e2
          · exact hsame j (by omega)
        · have he2 : eqS x.2 y.2 = false := by simpa using he2
          refine cW.calm [_, _, _, _, _, _, _, _, _, _, _, _, _, _, _, _, _, _, _, _, _, _, _, _, _, _, _, _, _, _, _, _, _, _, _, _, _, _, _, _, _] (v := .bool true) rfl rfl rfl (by show some (Value.bool (!eqS x.2 y.2)) = _; rw [he2]; rfl) rfl ?_
          refine cW.calm [_, _, _, _, _, _, _, _, _, _, _, _, _, _, _, _, _, _, _, _, _, _, _, _, _, _, _, _, _, _, _, _, _, _, _, _, _, _, _, _, _] (v := .bool true) rfl rfl rfl rfl rfl ?_
          refine cW.nil ?_
          refine AWp.testV rfl rfl ?_ (fun hc => by cases hc)
          intro hc
          refine AWp.seq ?_
          refine AWp.seq_region (l := _) pok ?_
          refine seqV.calm [_, _, _, _, _, _, _, _, _, _, _, _, _, _, _, _, _, _, _, _, _, _, _, _, _, _, _, _, _, _, _, _, _, _, _, _, _, _, _, _, _] (v := .bool _) rfl rfl rfl rfl ?_
          refine seqV.nil ?_
          refine AWp.ret ?_
          refine ⟨rfl, _, rfl, ?_, rfl, Nat.le_refl _⟩
          have hd : decide (as_ = bs) = false := decide_eq_false fun e => by
            rw [e, hy] at hx
            cases hx
            exact eqS_false he2 rfl
          rw [hd]
          rfl
      · have he : eqS x.1 y.1 = false := by simpa using he
        refine cW.calm [_, _, _, _, _, _, _, _, _, _, _, _, _, _, _, _, _, _, _, _, _, _, _, _, _, _, _, _, _, _, _, _, _, _, _, _, _, _, _, _, _] (v := .bool true) rfl rfl rfl (by show some (Value.bool (!eqS x.1 y.1)) = _; rw [he]; rfl) rfl ?_
        refine cW.calm [_, _, _, _, _, _, _, _, _, _, _, _, _, _, _, _, _, _, _, _, _, _, _, _, _, _, _, _, _, _, _, _, _, _, _, _, _, _, _, _, _] (v := .bool _) rfl rfl rfl rfl rfl ?_
        refine cW.skip [_, _, _, _, _, _, _, _, _, _, _, _, _, _, _, _, _, _, _, _, _, _, _, _, _, _, _, _, _, _, _, _, _, _, _, _, _, _, _, _, _] rfl rfl rfl ?_
        refine cW.skip [_, _, _, _, _, _, _, _, _, _, _, _, _, _, _, _, _, _, _, _, _, _, _, _, _, _, _, _, _, _, _, _, _, _, _, _, _, _, _, _, _] rfl rfl rfl ?_
        refine cW.skip [_, _, _, _, _, _, _, _, _, _, _, _, _, _, _, _, _, _, _, _, _, _, _, _, _, _, _, _, _, _, _, _, _, _, _, _, _, _, _, _, _] rfl rfl rfl ?_
        refine cW.skip [_, _, _, _, _, _, _, _, _, _, _, _, _, _, _, _, _, _, _, _, _, _, _, _, _, _, _, _, _, _, _, _, _, _, _, _, _, _, _, _, _] rfl rfl rfl ?_
        refine cW.skip [_, _, _, _, _, _, _, _, _, _, _, _, _, _, _, _, _, _, _, _, _, _, _, _, _, _, _, _, _, _, _, _, _, _, _, _, _, _, _, _, _] rfl rfl rfl ?_
        refine cW.skip [_, _, _, _, _, _, _, _, _, _, _, _, _, _, _, _, _, _, _, _, _, _, _, _, _, _, _, _, _, _, _, _, _, _, _, _, _, _, _, _, _] rfl rfl rfl ?_
        refine cW.skip [_, _, _, _, _, _, _, _, _, _, _, _, _, _, _, _, _, _, _, _, _, _, _, _, _, _, _, _, _, _, _, _, _, _, _, _, _, _, _, _, _] rfl rfl rfl ?_
        refine cW.skip [_, _, _, _, _, _, _, _, _, _, _, _, _, _, _, _, _, _, _, _, _, _, _, _, _, _, _, _, _, _, _, _, _, _, _, _, _, _, _, _, _] rfl rfl rfl ?_
        refine cW.skip [_, _, _, _, _, _, _, _, _, _, _, _, _, _, _, _, _, _, _, _, _, _, _, _, _, _, _, _, _, _, _, _, _, _, _, _, _, _, _, _, _] rfl rfl rfl ?_
        refine cW.skip [_, _, _, _, _, _, _, _, _, _, _, _, _, _, _, _, _, _, _, _, _, _, _, _, _, _, _, _, _, _, _, _, _, _, _, _, _, _, _, _, _] rfl rfl rfl ?_
        refine cW.skip [_, _, _, _, _, _, _, _, _, _, _, _, _, _, _, _, _, _, _, _, _, _, _, _, _, _, _, _, _, _, _, _, _, _, _, _, _, _, _, _, _] rfl rfl rfl ?_
        refine cW.calm [_, _, _, _, _, _, _, _, _, _, _, _, _, _, _, _, _, _, _, _, _, _, _, _, _, _, _, _, _, _, _, _, _, _, _, _, _, _, _, _, _] (v := .bool true) rfl rfl rfl rfl rfl ?_
        refine cW.nil ?_
        refine AWp.testV rfl rfl ?_ (fun hc => by cases hc)
        intro hc
        refine AWp.seq ?_
        refine AWp.seq_region (l := _) pok ?_
        refine seqV.calm [_, _, _, _, _, _, _, _, _, _, _, _, _, _, _, _, _, _, _, _, _, _, _, _, _, _, _, _, _, _, _, _, _, _, _, _, _, _, _, _, _] (v := .bool _) rfl rfl rfl rfl ?_
        refine seqV.nil ?_
        refine AWp.ret ?_
        refine ⟨rfl, _, rfl, ?_, rfl, Nat.le_refl _⟩
        have hd : decide (as_ = bs) = false := decide_eq_false fun e => by
          rw [e, hy] at hx
          cases hx
          exact eqS_false he rfl
        rw [hd]
        rfl
    · intro hc
      have hge : ¬ (i : Int) < as_.length := by simpa using hc
      refine AWp.exit ?_
      refine AWp.seq ?_
      refine AWp.seq_region (l := _) pok ?_
      refine seqV.calm [_, _, _, _, _, _, _, _, _, _, _, _, _, _, _, _, _, _, _, _, _, _, _, _, _, _, _, _, _, _, _, _, _, _, _, _, _, _, _, _, _] (v := .bool _) rfl rfl rfl rfl ?_
      refine seqV.nil ?_
      refine AWp.ret ?_
      refine ⟨rfl, _, rfl, ?_, rfl, Nat.le_refl _⟩
      have hd : decide (as_ = bs) = true := decide_eq_true (List.ext_getElem? fun j => by
        by_cases hj : j < i
        · exact hsame j hj
        · rw [List.getElem?_eq_none (by omega), List.getElem?_eq_none (by omega)])
      rw [hd]
      rfl
end Go.Proofs.YtkpjfibpaojelaaGreatDoor
