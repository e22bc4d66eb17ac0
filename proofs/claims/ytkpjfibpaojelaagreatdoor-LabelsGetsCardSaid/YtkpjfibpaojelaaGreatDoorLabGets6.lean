/- The law of Get and Without, over any labels and any name. -/
import Derived.Test.YtkpjfibpaojelaaGreatDoorLabWithout
import Derived.Test.YtkpjfibpaojelaaGreatDoorLab2
namespace Go.Proofs.YtkpjfibpaojelaaGreatDoor
open Go Go.Abs
set_option maxRecDepth 100000
set_option maxHeartbeats 2000000

theorem ACall.ex3 {P : Program} {f : FuncId} {args : Array Value} {h : Heap} {n : Nat} {R : Value → Heap → Prop} (c : ACall P f args h n fun r h' _ => ∃ v, r = .ret v ∧ R v h') : ACall P f args h n fun r h1 n1 => ∃ u, r = .ret u ∧ (R u h1 ∧ n ≤ n1 ∧ ∀ b, n1 ≤ b → h1.get b = none) :=
  c.mono fun _ h' _ hn hfr ⟨v, e, hr⟩ => ⟨h', Heap.sub_refl _, v, e, hr, hn, hfr⟩

theorem ACall.ex4 {P : Program} {f : FuncId} {args : Array Value} {h h0 : Heap} {n : Nat} {v : Value} (c : ACall P f args h n fun r h' n' => r = .ret v ∧ h' = h0 ∧ n ≤ n') : ACall P f args h n fun r h1 n1 => ∃ u, r = .ret u ∧ (u = v ∧ h1 = h0 ∧ n ≤ n1) :=
  c.mono fun _ h' _ _ _ ⟨e, e2, hn⟩ => ⟨h', Heap.sub_refl _, v, e, rfl, e2, hn⟩

theorem Fresh.onward {h h1 h2 : Heap} {n : Nat} {v : Value} {ls : List Lab} (f : Fresh h h1 n v ls) (hs : h1.sub h2) : Fresh h h2 n v ls :=
  ⟨Heap.sub_trans f.sub hs, f.lab.sub hs, fun hne => let ⟨b, cs, e, hb, hg⟩ := f.own hne; ⟨b, cs, e, hb, hs _ _ hg⟩⟩

/-- The program's variables lie in a heap. -/
def HasLaid (h : Heap) : Prop := ∃ c, (laidHeap c laidL).sub h

theorem awake_spec {h : Heap} {n : Nat} (hl : HasLaid h) : ACall Tryz.prog 13 #[] h n fun r h' n' => r = .ret (.bool true) ∧ h' = h ∧ n ≤ n' := by
  obtain ⟨c, hs⟩ := hl
  have := ACall.frame (P := Tryz.prog) (n := n) (laidHeap_ro c laidL_lt) hs (args := []) rfl (v := .bool true) rfl ((tabA_ok _ (List.mem_singleton.2 rfl)).2.2 c)
  exact this.mono fun _ h' _ hn _ ⟨a, b, _⟩ => ⟨h', Heap.sub_refl _, a, b, hn⟩

theorem boolEq (t : Bool) : binE Tryz.prog .eql 4 false false (.bool t) (.bool t) = some (.bool true) := by cases t <;> kernel_rfl

theorem long_ex {h : Heap} {n : Nat} {l : Value} {ls : List Lab} (hl : IsLab h l ls) (hlen : ls.length < 9223372036854775808) :
    ACall Tryz.prog 12 #[l] h n fun r h1 n1 => ∃ u, r = .ret u ∧ (∃ b, u = .bool b ∧ (b = false → ls.length < 500) ∧ h1 = h ∧ n1 = n) :=
  (f12_spec hl hlen).mono fun _ h' _ _ _ ⟨b, e, q⟩ => ⟨h', Heap.sub_refl _, _, e, b, rfl, q⟩

theorem refGet {h : Heap} {n : Nat} {l : Value} {ls : List Lab} {name : ByteArray} (hl : IsLab h l ls) (hlen : ls.length < 9223372036854775808) :
    ACall Tryz.prog 30 #[l, .string name] h n fun r h' n' => r = .ret (.tuple #[.string (getS ls name).1, .bool (getS ls name).2]) ∧ h' = h ∧ n ≤ n' :=
  (f30_spec hl hlen).mono fun _ h' _ hn _ ⟨e, a, _⟩ => ⟨h', Heap.sub_refl _, e, a, hn⟩

theorem wo_len {ls : List Lab} {name : ByteArray} (h : ls.length < 500) : (withoutL name ls).length < 1000000 := by
  have := List.length_filter_le (fun x : Lab => !eqS x.1 name) ls
  unfold withoutL
  omega

theorem f6_spec {h : Heap} {n : Nat} {l : Value} {ls : List Lab} {name : ByteArray} (hl : IsLab h l ls) (hlen : ls.length < 9223372036854775808) (hlaid : HasLaid h) :
    ACall Tryz.prog 6 #[l, .string name] h n fun r _ _ => r = .ret (.bool true) := by
  refine ACall.fresh fun hfr => ?_
  obtain ⟨a, cp, rfl⟩ := hl.slice
  refine ACall.of_bodyV (args := [.slice a ls.length cp, .string name]) Tryz.func6 rfl rfl ?_
  refine AWp.seq ?_
  refine AWp.seq_region (l := _) pok ?_
  refine seqV.calm [_, _, _, _, _, _, _, _, _, _, _, _, _, _, _, _, _, _, _, _, _, _, _, _, _, _, _, _, _, _, _, _, _, _, _, _, _, _, _, _, _, _, _, _, _, _, _, _, _, _, _, _, _, _, _, _, _, _, _, _, _, _, _, _, _, _] (v := .bool _) rfl rfl rfl rfl ?_
  refine seqV.nil ?_
  refine AWp.seq ?_
  refine AWp.seq ?_
  refine AWp.seq_region (l := _) pok ?_
  refine seqV.calm [_, _, _, _, _, _, _, _, _, _, _, _, _, _, _, _, _, _, _, _, _, _, _, _, _, _, _, _, _, _, _, _, _, _, _, _, _, _, _, _, _, _, _, _, _, _, _, _, _, _, _, _, _, _, _, _, _, _, _, _, _, _, _, _, _, _] (v := .slice _ _ _) rfl rfl rfl rfl ?_
  refine seqV.callF _ (xs := _) rfl rfl (by kernel_rfl) rfl (fun _ => rfl) (long_ex hl hlen) ?_
  rintro v h1 n1 ⟨b, rfl, hb, rfl, rfl⟩
  cases b with
  | true =>
    refine seqV.norm [_, _, _, _, _, _, _, _, _, _, _, _, _, _, _, _, _, _, _, _, _, _, _, _, _, _, _, _, _, _, _, _, _, _, _, _, _, _, _, _, _, _, _, _, _, _, _, _, _, _, _, _, _, _, _, _, _, _, _, _, _, _, _, _, _, _] rfl ?_
    refine seqV.calm [_, _, _, _, _, _, _, _, _, _, _, _, _, _, _, _, _, _, _, _, _, _, _, _, _, _, _, _, _, _, _, _, _, _, _, _, _, _, _, _, _, _, _, _, _, _, _, _, _, _, _, _, _, _, _, _, _, _, _, _, _, _, _, _, _, _] (v := .bool true) rfl rfl rfl rfl ?_
    refine seqV.skip [_, _, _, _, _, _, _, _, _, _, _, _, _, _, _, _, _, _, _, _, _, _, _, _, _, _, _, _, _, _, _, _, _, _, _, _, _, _, _, _, _, _, _, _, _, _, _, _, _, _, _, _, _, _, _, _, _, _, _, _, _, _, _, _, _, _] rfl rfl ?_
    refine seqV.skip [_, _, _, _, _, _, _, _, _, _, _, _, _, _, _, _, _, _, _, _, _, _, _, _, _, _, _, _, _, _, _, _, _, _, _, _, _, _, _, _, _, _, _, _, _, _, _, _, _, _, _, _, _, _, _, _, _, _, _, _, _, _, _, _, _, _] rfl rfl ?_
    refine seqV.skip [_, _, _, _, _, _, _, _, _, _, _, _, _, _, _, _, _, _, _, _, _, _, _, _, _, _, _, _, _, _, _, _, _, _, _, _, _, _, _, _, _, _, _, _, _, _, _, _, _, _, _, _, _, _, _, _, _, _, _, _, _, _, _, _, _, _] rfl rfl ?_
    refine seqV.calm [_, _, _, _, _, _, _, _, _, _, _, _, _, _, _, _, _, _, _, _, _, _, _, _, _, _, _, _, _, _, _, _, _, _, _, _, _, _, _, _, _, _, _, _, _, _, _, _, _, _, _, _, _, _, _, _, _, _, _, _, _, _, _, _, _, _] (v := .bool true) rfl rfl rfl rfl ?_
    refine seqV.nil ?_
    refine AWp.testV rfl rfl ?_ (fun hc => by cases hc)
    intro hc
    refine AWp.seq ?_
    refine AWp.seq_region (l := _) pok ?_
    refine seqV.callF _ (xs := _) rfl rfl (by kernel_rfl) rfl (fun _ => rfl) (ACall.ex (awake_spec hlaid)) ?_
    rintro v h1 n1 ⟨rfl, rfl, hn1⟩
    refine seqV.norm [_, _, _, _, _, _, _, _, _, _, _, _, _, _, _, _, _, _, _, _, _, _, _, _, _, _, _, _, _, _, _, _, _, _, _, _, _, _, _, _, _, _, _, _, _, _, _, _, _, _, _, _, _, _, _, _, _, _, _, _, _, _, _, _, _, _] rfl ?_
    refine seqV.calm [_, _, _, _, _, _, _, _, _, _, _, _, _, _, _, _, _, _, _, _, _, _, _, _, _, _, _, _, _, _, _, _, _, _, _, _, _, _, _, _, _, _, _, _, _, _, _, _, _, _, _, _, _, _, _, _, _, _, _, _, _, _, _, _, _, _] (v := .bool _) rfl rfl rfl rfl ?_
    refine seqV.nil ?_
    refine AWp.ret ?_
    exact ⟨rfl, _, rfl, rfl⟩
  | false =>
    have hb := hb rfl
    refine seqV.norm [_, _, _, _, _, _, _, _, _, _, _, _, _, _, _, _, _, _, _, _, _, _, _, _, _, _, _, _, _, _, _, _, _, _, _, _, _, _, _, _, _, _, _, _, _, _, _, _, _, _, _, _, _, _, _, _, _, _, _, _, _, _, _, _, _, _] rfl ?_
    refine seqV.calm [_, _, _, _, _, _, _, _, _, _, _, _, _, _, _, _, _, _, _, _, _, _, _, _, _, _, _, _, _, _, _, _, _, _, _, _, _, _, _, _, _, _, _, _, _, _, _, _, _, _, _, _, _, _, _, _, _, _, _, _, _, _, _, _, _, _] (v := .bool false) rfl rfl rfl rfl ?_
    refine seqV.calmG [_, _, _, _, _, _, _, _, _, _, _, _, _, _, _, _, _, _, _, _, _, _, _, _, _, _, _, _, _, _, _, _, _, _, _, _, _, _, _, _, _, _, _, _, _, _, _, _, _, _, _, _, _, _, _, _, _, _, _, _, _, _, _, _, _, _] (v := .string _) rfl rfl rfl rfl ?_
    refine seqV.calmG [_, _, _, _, _, _, _, _, _, _, _, _, _, _, _, _, _, _, _, _, _, _, _, _, _, _, _, _, _, _, _, _, _, _, _, _, _, _, _, _, _, _, _, _, _, _, _, _, _, _, _, _, _, _, _, _, _, _, _, _, _, _, _, _, _, _] (v := .int _ _) rfl rfl rfl rfl ?_
    refine seqV.calmG [_, _, _, _, _, _, _, _, _, _, _, _, _, _, _, _, _, _, _, _, _, _, _, _, _, _, _, _, _, _, _, _, _, _, _, _, _, _, _, _, _, _, _, _, _, _, _, _, _, _, _, _, _, _, _, _, _, _, _, _, _, _, _, _, _, _] (v := .bool _) rfl rfl rfl rfl ?_
    refine seqV.calm [_, _, _, _, _, _, _, _, _, _, _, _, _, _, _, _, _, _, _, _, _, _, _, _, _, _, _, _, _, _, _, _, _, _, _, _, _, _, _, _, _, _, _, _, _, _, _, _, _, _, _, _, _, _, _, _, _, _, _, _, _, _, _, _, _, _] (v := .bool _) rfl rfl rfl rfl ?_
    refine seqV.nil ?_
    refine AWp.testV rfl rfl ?_ ?_
    · intro hc
      refine AWp.seq ?_
      refine AWp.seq_region (l := _) pok ?_
      refine seqV.callF _ (xs := _) rfl rfl (by kernel_rfl) rfl (fun _ => rfl) (ACall.ex (awake_spec hlaid)) ?_
      rintro v h1 n1 ⟨rfl, rfl, hn1⟩
      refine seqV.norm [_, _, _, _, _, _, _, _, _, _, _, _, _, _, _, _, _, _, _, _, _, _, _, _, _, _, _, _, _, _, _, _, _, _, _, _, _, _, _, _, _, _, _, _, _, _, _, _, _, _, _, _, _, _, _, _, _, _, _, _, _, _, _, _, _, _] rfl ?_
      refine seqV.calm [_, _, _, _, _, _, _, _, _, _, _, _, _, _, _, _, _, _, _, _, _, _, _, _, _, _, _, _, _, _, _, _, _, _, _, _, _, _, _, _, _, _, _, _, _, _, _, _, _, _, _, _, _, _, _, _, _, _, _, _, _, _, _, _, _, _] (v := .bool _) rfl rfl rfl rfl ?_
      refine seqV.nil ?_
      refine AWp.ret ?_
      exact ⟨rfl, _, rfl, rfl⟩
    · intro hc
      refine AWp.skip ?_
      refine AWp.seq ?_
      refine AWp.seq_region (l := _) pok ?_
      refine seqV.calm [_, _, _, _, _, _, _, _, _, _, _, _, _, _, _, _, _, _, _, _, _, _, _, _, _, _, _, _, _, _, _, _, _, _, _, _, _, _, _, _, _, _, _, _, _, _, _, _, _, _, _, _, _, _, _, _, _, _, _, _, _, _, _, _, _, _] (v := .slice _ _ _) rfl rfl rfl rfl ?_
      refine seqV.callF _ (xs := _) rfl rfl (by kernel_rfl) rfl (fun _ => rfl) (ACall.ex3 (f14_spec hl (by omega))) ?_
      rintro vin h2 n2 ⟨hin, hn2, hfr2⟩
      obtain ⟨a2, cp2, rfl⟩ := hin.lab.slice
      have hl2 := hl.sub hin.sub
      refine seqV.norm [_, _, _, _, _, _, _, _, _, _, _, _, _, _, _, _, _, _, _, _, _, _, _, _, _, _, _, _, _, _, _, _, _, _, _, _, _, _, _, _, _, _, _, _, _, _, _, _, _, _, _, _, _, _, _, _, _, _, _, _, _, _, _, _, _, _] rfl ?_
      refine seqV.calm [_, _, _, _, _, _, _, _, _, _, _, _, _, _, _, _, _, _, _, _, _, _, _, _, _, _, _, _, _, _, _, _, _, _, _, _, _, _, _, _, _, _, _, _, _, _, _, _, _, _, _, _, _, _, _, _, _, _, _, _, _, _, _, _, _, _] (v := .slice _ _ _) rfl rfl rfl rfl ?_
      refine seqV.nil ?_
      refine AWp.seq ?_
      refine AWp.seq_region (l := _) pok ?_
      refine seqV.calm [_, _, _, _, _, _, _, _, _, _, _, _, _, _, _, _, _, _, _, _, _, _, _, _, _, _, _, _, _, _, _, _, _, _, _, _, _, _, _, _, _, _, _, _, _, _, _, _, _, _, _, _, _, _, _, _, _, _, _, _, _, _, _, _, _, _] (v := .slice _ _ _) rfl rfl rfl rfl ?_
      refine seqV.calm [_, _, _, _, _, _, _, _, _, _, _, _, _, _, _, _, _, _, _, _, _, _, _, _, _, _, _, _, _, _, _, _, _, _, _, _, _, _, _, _, _, _, _, _, _, _, _, _, _, _, _, _, _, _, _, _, _, _, _, _, _, _, _, _, _, _] (v := .string _) rfl rfl rfl rfl ?_
      refine seqV.callF _ (xs := _) rfl rfl (by kernel_rfl) rfl (fun _ => rfl) (ACall.ex (f29_spec hin.lab (by omega))) ?_
      rintro v h3 n3 ⟨rfl, rfl, hn3in⟩
      refine seqV.norm [_, _, _, _, _, _, _, _, _, _, _, _, _, _, _, _, _, _, _, _, _, _, _, _, _, _, _, _, _, _, _, _, _, _, _, _, _, _, _, _, _, _, _, _, _, _, _, _, _, _, _, _, _, _, _, _, _, _, _, _, _, _, _, _, _, _] rfl ?_
      refine seqV.calm [_, _, _, _, _, _, _, _, _, _, _, _, _, _, _, _, _, _, _, _, _, _, _, _, _, _, _, _, _, _, _, _, _, _, _, _, _, _, _, _, _, _, _, _, _, _, _, _, _, _, _, _, _, _, _, _, _, _, _, _, _, _, _, _, _, _] (v := .tuple _) rfl rfl rfl rfl ?_
      refine seqV.calm [_, _, _, _, _, _, _, _, _, _, _, _, _, _, _, _, _, _, _, _, _, _, _, _, _, _, _, _, _, _, _, _, _, _, _, _, _, _, _, _, _, _, _, _, _, _, _, _, _, _, _, _, _, _, _, _, _, _, _, _, _, _, _, _, _, _] (v := .string _) rfl rfl rfl rfl ?_
      refine seqV.calm [_, _, _, _, _, _, _, _, _, _, _, _, _, _, _, _, _, _, _, _, _, _, _, _, _, _, _, _, _, _, _, _, _, _, _, _, _, _, _, _, _, _, _, _, _, _, _, _, _, _, _, _, _, _, _, _, _, _, _, _, _, _, _, _, _, _] (v := .bool _) rfl rfl rfl rfl ?_
      refine seqV.calm [_, _, _, _, _, _, _, _, _, _, _, _, _, _, _, _, _, _, _, _, _, _, _, _, _, _, _, _, _, _, _, _, _, _, _, _, _, _, _, _, _, _, _, _, _, _, _, _, _, _, _, _, _, _, _, _, _, _, _, _, _, _, _, _, _, _] (v := .string _) rfl rfl rfl rfl ?_
      refine seqV.calm [_, _, _, _, _, _, _, _, _, _, _, _, _, _, _, _, _, _, _, _, _, _, _, _, _, _, _, _, _, _, _, _, _, _, _, _, _, _, _, _, _, _, _, _, _, _, _, _, _, _, _, _, _, _, _, _, _, _, _, _, _, _, _, _, _, _] (v := .bool _) rfl rfl rfl rfl ?_
      refine seqV.nil ?_
      refine AWp.seq ?_
      refine AWp.seq_region (l := _) pok ?_
      refine seqV.calm [_, _, _, _, _, _, _, _, _, _, _, _, _, _, _, _, _, _, _, _, _, _, _, _, _, _, _, _, _, _, _, _, _, _, _, _, _, _, _, _, _, _, _, _, _, _, _, _, _, _, _, _, _, _, _, _, _, _, _, _, _, _, _, _, _, _] (v := .slice _ _ _) rfl rfl rfl rfl ?_
      refine seqV.calm [_, _, _, _, _, _, _, _, _, _, _, _, _, _, _, _, _, _, _, _, _, _, _, _, _, _, _, _, _, _, _, _, _, _, _, _, _, _, _, _, _, _, _, _, _, _, _, _, _, _, _, _, _, _, _, _, _, _, _, _, _, _, _, _, _, _] (v := .string _) rfl rfl rfl rfl ?_
      refine seqV.callF _ (xs := _) rfl rfl (by kernel_rfl) rfl (fun _ => rfl) (ACall.ex (refGet hl2 (by omega))) ?_
      rintro v h3 n3 ⟨rfl, rfl, hn3l⟩
      refine seqV.norm [_, _, _, _, _, _, _, _, _, _, _, _, _, _, _, _, _, _, _, _, _, _, _, _, _, _, _, _, _, _, _, _, _, _, _, _, _, _, _, _, _, _, _, _, _, _, _, _, _, _, _, _, _, _, _, _, _, _, _, _, _, _, _, _, _, _] rfl ?_
      refine seqV.calm [_, _, _, _, _, _, _, _, _, _, _, _, _, _, _, _, _, _, _, _, _, _, _, _, _, _, _, _, _, _, _, _, _, _, _, _, _, _, _, _, _, _, _, _, _, _, _, _, _, _, _, _, _, _, _, _, _, _, _, _, _, _, _, _, _, _] (v := .tuple _) rfl rfl rfl rfl ?_
      refine seqV.calm [_, _, _, _, _, _, _, _, _, _, _, _, _, _, _, _, _, _, _, _, _, _, _, _, _, _, _, _, _, _, _, _, _, _, _, _, _, _, _, _, _, _, _, _, _, _, _, _, _, _, _, _, _, _, _, _, _, _, _, _, _, _, _, _, _, _] (v := .string _) rfl rfl rfl rfl ?_
      refine seqV.calm [_, _, _, _, _, _, _, _, _, _, _, _, _, _, _, _, _, _, _, _, _, _, _, _, _, _, _, _, _, _, _, _, _, _, _, _, _, _, _, _, _, _, _, _, _, _, _, _, _, _, _, _, _, _, _, _, _, _, _, _, _, _, _, _, _, _] (v := .bool _) rfl rfl rfl rfl ?_
      refine seqV.calm [_, _, _, _, _, _, _, _, _, _, _, _, _, _, _, _, _, _, _, _, _, _, _, _, _, _, _, _, _, _, _, _, _, _, _, _, _, _, _, _, _, _, _, _, _, _, _, _, _, _, _, _, _, _, _, _, _, _, _, _, _, _, _, _, _, _] (v := .string _) rfl rfl rfl rfl ?_
      refine seqV.calm [_, _, _, _, _, _, _, _, _, _, _, _, _, _, _, _, _, _, _, _, _, _, _, _, _, _, _, _, _, _, _, _, _, _, _, _, _, _, _, _, _, _, _, _, _, _, _, _, _, _, _, _, _, _, _, _, _, _, _, _, _, _, _, _, _, _] (v := .bool _) rfl rfl rfl rfl ?_
      refine seqV.nil ?_
      refine AWp.seq ?_
      refine AWp.seq_region (l := _) pok ?_
      refine seqV.calm [_, _, _, _, _, _, _, _, _, _, _, _, _, _, _, _, _, _, _, _, _, _, _, _, _, _, _, _, _, _, _, _, _, _, _, _, _, _, _, _, _, _, _, _, _, _, _, _, _, _, _, _, _, _, _, _, _, _, _, _, _, _, _, _, _, _] (v := .string _) rfl rfl rfl rfl ?_
      refine seqV.calm [_, _, _, _, _, _, _, _, _, _, _, _, _, _, _, _, _, _, _, _, _, _, _, _, _, _, _, _, _, _, _, _, _, _, _, _, _, _, _, _, _, _, _, _, _, _, _, _, _, _, _, _, _, _, _, _, _, _, _, _, _, _, _, _, _, _] (v := .string _) rfl rfl rfl rfl ?_
      refine seqV.calm [_, _, _, _, _, _, _, _, _, _, _, _, _, _, _, _, _, _, _, _, _, _, _, _, _, _, _, _, _, _, _, _, _, _, _, _, _, _, _, _, _, _, _, _, _, _, _, _, _, _, _, _, _, _, _, _, _, _, _, _, _, _, _, _, _, _] (v := .bool true) rfl rfl (by show some (Value.bool (eqS _ _)) = _; rw [eqS_iff.2 rfl]) rfl ?_
      refine seqV.calm [_, _, _, _, _, _, _, _, _, _, _, _, _, _, _, _, _, _, _, _, _, _, _, _, _, _, _, _, _, _, _, _, _, _, _, _, _, _, _, _, _, _, _, _, _, _, _, _, _, _, _, _, _, _, _, _, _, _, _, _, _, _, _, _, _, _] (v := .bool true) rfl rfl rfl rfl ?_
      refine seqV.calmG [_, _, _, _, _, _, _, _, _, _, _, _, _, _, _, _, _, _, _, _, _, _, _, _, _, _, _, _, _, _, _, _, _, _, _, _, _, _, _, _, _, _, _, _, _, _, _, _, _, _, _, _, _, _, _, _, _, _, _, _, _, _, _, _, _, _] (v := .bool _) rfl rfl rfl rfl ?_
      refine seqV.calmG [_, _, _, _, _, _, _, _, _, _, _, _, _, _, _, _, _, _, _, _, _, _, _, _, _, _, _, _, _, _, _, _, _, _, _, _, _, _, _, _, _, _, _, _, _, _, _, _, _, _, _, _, _, _, _, _, _, _, _, _, _, _, _, _, _, _] (v := .bool _) rfl rfl rfl rfl ?_
      refine seqV.calmG [_, _, _, _, _, _, _, _, _, _, _, _, _, _, _, _, _, _, _, _, _, _, _, _, _, _, _, _, _, _, _, _, _, _, _, _, _, _, _, _, _, _, _, _, _, _, _, _, _, _, _, _, _, _, _, _, _, _, _, _, _, _, _, _, _, _] (v := .bool true) rfl rfl (boolEq _) rfl ?_
      refine seqV.calm [_, _, _, _, _, _, _, _, _, _, _, _, _, _, _, _, _, _, _, _, _, _, _, _, _, _, _, _, _, _, _, _, _, _, _, _, _, _, _, _, _, _, _, _, _, _, _, _, _, _, _, _, _, _, _, _, _, _, _, _, _, _, _, _, _, _] (v := .bool true) rfl rfl rfl rfl ?_
      refine seqV.calm [_, _, _, _, _, _, _, _, _, _, _, _, _, _, _, _, _, _, _, _, _, _, _, _, _, _, _, _, _, _, _, _, _, _, _, _, _, _, _, _, _, _, _, _, _, _, _, _, _, _, _, _, _, _, _, _, _, _, _, _, _, _, _, _, _, _] (v := .bool true) rfl rfl rfl rfl ?_
      refine seqV.calmG [_, _, _, _, _, _, _, _, _, _, _, _, _, _, _, _, _, _, _, _, _, _, _, _, _, _, _, _, _, _, _, _, _, _, _, _, _, _, _, _, _, _, _, _, _, _, _, _, _, _, _, _, _, _, _, _, _, _, _, _, _, _, _, _, _, _] (v := .slice _ _ _) rfl rfl rfl rfl ?_
      refine seqV.calmG [_, _, _, _, _, _, _, _, _, _, _, _, _, _, _, _, _, _, _, _, _, _, _, _, _, _, _, _, _, _, _, _, _, _, _, _, _, _, _, _, _, _, _, _, _, _, _, _, _, _, _, _, _, _, _, _, _, _, _, _, _, _, _, _, _, _] (v := .string _) rfl rfl rfl rfl ?_
      refine seqV.callF _ (xs := _) rfl rfl (by kernel_rfl) rfl (fun _ => rfl) (ACall.ex3 (f31_spec hin.lab (by omega))) ?_
      rintro w1 k1 m1 ⟨hw1, hm1, hfk1⟩
      refine seqV.norm [_, _, _, _, _, _, _, _, _, _, _, _, _, _, _, _, _, _, _, _, _, _, _, _, _, _, _, _, _, _, _, _, _, _, _, _, _, _, _, _, _, _, _, _, _, _, _, _, _, _, _, _, _, _, _, _, _, _, _, _, _, _, _, _, _, _] rfl ?_
      refine seqV.calmG [_, _, _, _, _, _, _, _, _, _, _, _, _, _, _, _, _, _, _, _, _, _, _, _, _, _, _, _, _, _, _, _, _, _, _, _, _, _, _, _, _, _, _, _, _, _, _, _, _, _, _, _, _, _, _, _, _, _, _, _, _, _, _, _, _, _] (v := .slice _ _ _) rfl rfl rfl rfl ?_
      refine seqV.calmG [_, _, _, _, _, _, _, _, _, _, _, _, _, _, _, _, _, _, _, _, _, _, _, _, _, _, _, _, _, _, _, _, _, _, _, _, _, _, _, _, _, _, _, _, _, _, _, _, _, _, _, _, _, _, _, _, _, _, _, _, _, _, _, _, _, _] (v := .string _) rfl rfl rfl rfl ?_
      refine seqV.callF _ (xs := _) rfl rfl (by kernel_rfl) rfl (fun _ => rfl) (ACall.ex3 (f32_spec (hl2.sub hw1.sub) (by omega))) ?_
      rintro u1 q1 p1 ⟨hu1, hp1, hfq1⟩
      refine seqV.norm [_, _, _, _, _, _, _, _, _, _, _, _, _, _, _, _, _, _, _, _, _, _, _, _, _, _, _, _, _, _, _, _, _, _, _, _, _, _, _, _, _, _, _, _, _, _, _, _, _, _, _, _, _, _, _, _, _, _, _, _, _, _, _, _, _, _] rfl ?_
      refine seqV.callF _ (xs := _) rfl rfl (by kernel_rfl) rfl (fun _ => rfl) (ACall.ex4 (f17_spec (fun b hb => hfr2 b (by omega)) (hw1.onward hu1.sub) hu1.lab (wo_len hb) (wo_len hb))) ?_
      rintro v h3 n41 ⟨rfl, rfl, hn41⟩
      refine seqV.norm [_, _, _, _, _, _, _, _, _, _, _, _, _, _, _, _, _, _, _, _, _, _, _, _, _, _, _, _, _, _, _, _, _, _, _, _, _, _, _, _, _, _, _, _, _, _, _, _, _, _, _, _, _, _, _, _, _, _, _, _, _, _, _, _, _, _] rfl ?_
      refine seqV.calm [_, _, _, _, _, _, _, _, _, _, _, _, _, _, _, _, _, _, _, _, _, _, _, _, _, _, _, _, _, _, _, _, _, _, _, _, _, _, _, _, _, _, _, _, _, _, _, _, _, _, _, _, _, _, _, _, _, _, _, _, _, _, _, _, _, _] (v := .bool true) rfl rfl (by show some (Value.bool (decide (withoutL name ls = withoutL name ls))) = _; rw [decide_eq_true rfl]) rfl ?_
      refine seqV.calm [_, _, _, _, _, _, _, _, _, _, _, _, _, _, _, _, _, _, _, _, _, _, _, _, _, _, _, _, _, _, _, _, _, _, _, _, _, _, _, _, _, _, _, _, _, _, _, _, _, _, _, _, _, _, _, _, _, _, _, _, _, _, _, _, _, _] (v := .bool true) rfl rfl rfl rfl ?_
      refine seqV.calmG [_, _, _, _, _, _, _, _, _, _, _, _, _, _, _, _, _, _, _, _, _, _, _, _, _, _, _, _, _, _, _, _, _, _, _, _, _, _, _, _, _, _, _, _, _, _, _, _, _, _, _, _, _, _, _, _, _, _, _, _, _, _, _, _, _, _] (v := .slice _ _ _) rfl rfl rfl rfl ?_
      refine seqV.calmG [_, _, _, _, _, _, _, _, _, _, _, _, _, _, _, _, _, _, _, _, _, _, _, _, _, _, _, _, _, _, _, _, _, _, _, _, _, _, _, _, _, _, _, _, _, _, _, _, _, _, _, _, _, _, _, _, _, _, _, _, _, _, _, _, _, _] (v := .string _) rfl rfl rfl rfl ?_
      refine seqV.callF _ (xs := _) rfl rfl (by kernel_rfl) rfl (fun _ => rfl) (ACall.ex3 (f31_spec hin.lab (by omega))) ?_
      rintro w2 k2 m2 ⟨hw2, hm2, hfk2⟩
      refine seqV.norm [_, _, _, _, _, _, _, _, _, _, _, _, _, _, _, _, _, _, _, _, _, _, _, _, _, _, _, _, _, _, _, _, _, _, _, _, _, _, _, _, _, _, _, _, _, _, _, _, _, _, _, _, _, _, _, _, _, _, _, _, _, _, _, _, _, _] rfl ?_
      refine seqV.calmG [_, _, _, _, _, _, _, _, _, _, _, _, _, _, _, _, _, _, _, _, _, _, _, _, _, _, _, _, _, _, _, _, _, _, _, _, _, _, _, _, _, _, _, _, _, _, _, _, _, _, _, _, _, _, _, _, _, _, _, _, _, _, _, _, _, _] (v := .slice _ _ _) rfl rfl rfl rfl ?_
      refine seqV.calmG [_, _, _, _, _, _, _, _, _, _, _, _, _, _, _, _, _, _, _, _, _, _, _, _, _, _, _, _, _, _, _, _, _, _, _, _, _, _, _, _, _, _, _, _, _, _, _, _, _, _, _, _, _, _, _, _, _, _, _, _, _, _, _, _, _, _] (v := .string _) rfl rfl rfl rfl ?_
      refine seqV.callF _ (xs := _) rfl rfl (by kernel_rfl) rfl (fun _ => rfl) (ACall.ex3 (f32_spec (hl2.sub hw2.sub) (by omega))) ?_
      rintro u2 q2 p2 ⟨hu2, hp2, hfq2⟩
      refine seqV.norm [_, _, _, _, _, _, _, _, _, _, _, _, _, _, _, _, _, _, _, _, _, _, _, _, _, _, _, _, _, _, _, _, _, _, _, _, _, _, _, _, _, _, _, _, _, _, _, _, _, _, _, _, _, _, _, _, _, _, _, _, _, _, _, _, _, _] rfl ?_
      refine seqV.callF _ (xs := _) rfl rfl (by kernel_rfl) rfl (fun _ => rfl) (ACall.ex4 (f17_spec (fun b hb => hfr2 b (by omega)) (hw2.onward hu2.sub) hu2.lab (wo_len hb) (wo_len hb))) ?_
      rintro v h3 n42 ⟨rfl, rfl, hn42⟩
      refine seqV.norm [_, _, _, _, _, _, _, _, _, _, _, _, _, _, _, _, _, _, _, _, _, _, _, _, _, _, _, _, _, _, _, _, _, _, _, _, _, _, _, _, _, _, _, _, _, _, _, _, _, _, _, _, _, _, _, _, _, _, _, _, _, _, _, _, _, _] rfl ?_
      refine seqV.calm [_, _, _, _, _, _, _, _, _, _, _, _, _, _, _, _, _, _, _, _, _, _, _, _, _, _, _, _, _, _, _, _, _, _, _, _, _, _, _, _, _, _, _, _, _, _, _, _, _, _, _, _, _, _, _, _, _, _, _, _, _, _, _, _, _, _] (v := .bool true) rfl rfl (by show some (Value.bool (decide (withoutL name ls = withoutL name ls))) = _; rw [decide_eq_true rfl]) rfl ?_
      refine seqV.calm [_, _, _, _, _, _, _, _, _, _, _, _, _, _, _, _, _, _, _, _, _, _, _, _, _, _, _, _, _, _, _, _, _, _, _, _, _, _, _, _, _, _, _, _, _, _, _, _, _, _, _, _, _, _, _, _, _, _, _, _, _, _, _, _, _, _] (v := .bool true) rfl rfl rfl rfl ?_
      refine seqV.calmG [_, _, _, _, _, _, _, _, _, _, _, _, _, _, _, _, _, _, _, _, _, _, _, _, _, _, _, _, _, _, _, _, _, _, _, _, _, _, _, _, _, _, _, _, _, _, _, _, _, _, _, _, _, _, _, _, _, _, _, _, _, _, _, _, _, _] (v := .slice _ _ _) rfl rfl rfl rfl ?_
      refine seqV.calmG [_, _, _, _, _, _, _, _, _, _, _, _, _, _, _, _, _, _, _, _, _, _, _, _, _, _, _, _, _, _, _, _, _, _, _, _, _, _, _, _, _, _, _, _, _, _, _, _, _, _, _, _, _, _, _, _, _, _, _, _, _, _, _, _, _, _] (v := .slice _ _ _) rfl rfl rfl rfl ?_
      refine seqV.callF _ (xs := _) rfl rfl (by kernel_rfl) rfl (fun _ => rfl) (ACall.ex4 (f17_spec hfr hin hl2 (by omega) (by omega))) ?_
      rintro v h3 n5 ⟨rfl, rfl, hn5⟩
      refine seqV.norm [_, _, _, _, _, _, _, _, _, _, _, _, _, _, _, _, _, _, _, _, _, _, _, _, _, _, _, _, _, _, _, _, _, _, _, _, _, _, _, _, _, _, _, _, _, _, _, _, _, _, _, _, _, _, _, _, _, _, _, _, _, _, _, _, _, _] rfl ?_
      refine seqV.calm [_, _, _, _, _, _, _, _, _, _, _, _, _, _, _, _, _, _, _, _, _, _, _, _, _, _, _, _, _, _, _, _, _, _, _, _, _, _, _, _, _, _, _, _, _, _, _, _, _, _, _, _, _, _, _, _, _, _, _, _, _, _, _, _, _, _] (v := .bool true) rfl rfl (by show some (Value.bool (decide (ls = ls))) = _; rw [decide_eq_true rfl]) rfl ?_
      refine seqV.calm [_, _, _, _, _, _, _, _, _, _, _, _, _, _, _, _, _, _, _, _, _, _, _, _, _, _, _, _, _, _, _, _, _, _, _, _, _, _, _, _, _, _, _, _, _, _, _, _, _, _, _, _, _, _, _, _, _, _, _, _, _, _, _, _, _, _] (v := .bool true) rfl rfl rfl rfl ?_
      refine seqV.callF _ (xs := _) rfl rfl (by kernel_rfl) rfl (fun _ => rfl) (ACall.ex (awake_spec hlaid)) ?_
      rintro v h4 n6 ⟨rfl, rfl, hn6⟩
      refine seqV.norm [_, _, _, _, _, _, _, _, _, _, _, _, _, _, _, _, _, _, _, _, _, _, _, _, _, _, _, _, _, _, _, _, _, _, _, _, _, _, _, _, _, _, _, _, _, _, _, _, _, _, _, _, _, _, _, _, _, _, _, _, _, _, _, _, _, _] rfl ?_
      refine seqV.calm [_, _, _, _, _, _, _, _, _, _, _, _, _, _, _, _, _, _, _, _, _, _, _, _, _, _, _, _, _, _, _, _, _, _, _, _, _, _, _, _, _, _, _, _, _, _, _, _, _, _, _, _, _, _, _, _, _, _, _, _, _, _, _, _, _, _] (v := .bool true) rfl rfl rfl rfl ?_
      refine seqV.calm [_, _, _, _, _, _, _, _, _, _, _, _, _, _, _, _, _, _, _, _, _, _, _, _, _, _, _, _, _, _, _, _, _, _, _, _, _, _, _, _, _, _, _, _, _, _, _, _, _, _, _, _, _, _, _, _, _, _, _, _, _, _, _, _, _, _] (v := .bool true) rfl rfl rfl rfl ?_
      refine seqV.nil ?_
      refine AWp.ret ?_
      exact ⟨rfl, _, rfl, rfl⟩
end Go.Proofs.YtkpjfibpaojelaaGreatDoor
