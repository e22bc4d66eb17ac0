/- Claim: 'batonlaw05.LabelsMay' returns true for any arguments, whatever the memory, and changes nothing that was there (whether texts may be names or values, whether labels may be, and whether lists are the same, are the document's). Condition: the listed package-level variables hold what the program's text lays. -/
import Derived.Test.YtkpjfibpaojelaaGreatDoorLabMayLaw
import Derived.Test.YtkpjfibpaojelaaGreatDoorLabOpn
import Derived.Test.YtkpjfibpaojelaaGreatDoorCards
import Derived.SevenTiedAt
namespace Go.Proofs.YtkpjfibpaojelaaGreatDoor
open Go Go.Abs Go.ChangeShapes Go.RowKit Go.WideShapes
set_option maxRecDepth 100000
set_option maxHeartbeats 1000000

theorem may_calls {W : World} {v1 : Value} {v2 : Value} (s0 : ByteArray) (hW : LaidW W laidL) (h1 : (v1 = .slice none 0 0 ∨ ∃ (bk off cap : Nat) (c : Array Value) (el : TypeId) (fr : Nat × Nat) (ls : List Lab), v1 = .slice (some ⟨bk, off, none⟩) ls.length cap ∧ ls.length ≤ cap ∧ cap ≤ maxLen ∧ W.heap[bk]? = some (.cells c el fr) ∧ off + 2 * ls.length ≤ c.size ∧ ∀ i y, (encLab.row ls)[i]? = some y → c[off + i]? = some y)) (h2 : (v2 = .slice none 0 0 ∨ ∃ (bk off cap : Nat) (c : Array Value) (el : TypeId) (fr : Nat × Nat) (ls : List Lab), v2 = .slice (some ⟨bk, off, none⟩) ls.length cap ∧ ls.length ≤ cap ∧ cap ≤ maxLen ∧ W.heap[bk]? = some (.cells c el fr) ∧ off + 2 * ls.length ≤ c.size ∧ ∀ i y, (encLab.row ls)[i]? = some y → c[off + i]? = some y)) :
    Calls Tryz.prog 4 #[.string s0, v1, v2] W fun e W' => e = .returned (.bool true) ∧ Below W.heap.size W W' := by
  obtain ⟨c0, r0, ro0⟩ := hW.rel laidL_lt
  have l0 : Laid0 (laidHeap c0 laidL) := ⟨c0, Heap.sub_refl _⟩
  obtain ⟨m2, k2, n2, a1, cp1, ls1, r2, ro2, s1_, le1, e1, q1, b1⟩ := add_labels r0 ro0 h1
  have l2 := l0.sub s1_
  obtain ⟨m3, k3, n3, a2, cp2, ls2, r3, ro3, s2_, le2, e2, q2, b2⟩ := add_labels r2 ro2 h2
  have l3 := l2.sub s2_
  have q1 := q1.sub s2_
  have e1 := e1.mono le2
  refine law_calls (args := #[.string s0, .slice a1 ls1.length cp1, .slice a2 ls2.length cp2]) ro3 r3 ⟨rfl, fun i x y hx hy => ?_⟩ (f4_spec s0 ls1 ls2 q1 q2 l3)
  match i, hx, hy with
  | 0, hx, hy => cases hx; cases hy; exact .string _
  | 1, hx, hy => cases hx; cases hy; exact e1
  | 2, hx, hy => cases hx; cases hy; exact e2
  | i + 3, hx, _ => simp at hx

theorem may_own : ownKnob Tryz.prog.godebug = none := by kernel_rfl

theorem may_lifted (os : Os) (started : os.Started) (H : Type) (enc : TypeId × Value → H) :
    ReturnsInHanded {} Tryz.checked os 4 .any (fun w args => (Rows.labelsMaySpec.pre enc Tryz.prog Tryz.f4 [] false w args ∧ laidMetH Tryz.prog Rows.labelsMayRow.laid w) ∧ sizedMet enc Tryz.prog Tryz.f4 (OpenSpec.ofChange Rows.labelsMaySpec) false w args)
      (Rows.labelsMaySpec.post enc Tryz.prog Tryz.f4 false true false false) := by
  refine returnsInHanded_of_change_and (C := Tryz.checked) (X := fun w _ => laidMetH Tryz.prog Rows.labelsMayRow.laid w) (fun _ _ _ hh h => h.of_heap hh) may_own started (by kernel_rfl) Tryz.func4
    (ChangeSpec.witness_shaped (enc := enc) (C := Tryz.checked) (os := os) (X := fun w _ => laidMetH Tryz.prog Rows.labelsMayRow.laid w) false (World.laidAll Tryz.prog os Rows.labelsMayRow.laid) #[.string ⟨#[]⟩, .slice none 0 0, .slice none 0 0] 8 (World.laidAll_os _ _ _)
      (World.shaped_of_ZipB (by kernel_rfl) (by kernel_rfl)) (by kernel_rfl) (by kernel_rfl) (by kernel_rfl)
      (by rw [MakeChecks.laidMetH_plain _ _ _ (by kernel_rfl)]; exact laidMet_laidAll _ (by kernel_rfl) (by kernel_rfl))) ?_
  intro W base args ds gs before hval0 hW _ _ hL _
  have hval : ∀ (j : Nat) t v, Tryz.f4.params[j]? = some t → args[j]? = some v → Value.okWide Tryz.prog W .any base t v := hval0
  have hL' : laidMet Tryz.prog Rows.labelsNamesRow.laid W := by
    have h : laidMetH Tryz.prog Rows.labelsMayRow.laid W := hL
    rwa [MakeChecks.laidMetH_plain _ _ _ (by kernel_rfl)] at h
  have hW' := hW
  obtain ⟨p, q, hA0, hV, rfl, hfz, hnd⟩ := hW
  have hA : DataW.TrodAll enc Tryz.prog W 0 (fun _ => true) true Tryz.f4.params.toList args.toList ds p := hA0
  rw [Tryz.params4] at hA hval
  obtain ⟨v0, v1, v2, d0, d1, d2, p0, p1, p2, rfl, rfl, rfl, h0, h1, h2⟩ := trodAll_three hA
  have hs1 := open_labels (hval 1 22 v1 rfl rfl) h1
  have hs2 := open_labels (hval 2 22 v2 rfl rfl) h2
  obtain ⟨s0, rfl, rfl, rfl, _⟩ := _root_.Go.ChangeMaps.open_string und9 (hval 0 9 v0 rfl rfl) h0
  refine (may_calls s0 (laidW_of hL') hs1 hs2).mono fun e W' ⟨he, hb⟩ => ?_
  subst he
  exact ⟨_, rfl, post_below (tb := 4) (by kernel_rfl) hW' rfl (by kernel_rfl) (by kernel_rfl) (by kernel_rfl) (fun h => by subst h; rfl) hb⟩

theorem may_holds : Rows.LabelsMaySaid :=
  OpenClaim.holds_of_wide 4 Tryz.f4 rfl rfl rfl rfl rfl rfl rfl ⟨rfl, rfl, rfl, rfl, rfl⟩ rfl rfl rfl rfl rfl (by kernel_rfl) Tryz.func4 (by kernel_rfl)
    (of_decide_eq_true (by kernel_rfl)) (by unfold Func.isWrapper; first | (rw [if_pos (by decide +kernel)]; kernel_rfl) | (rw [if_neg (by decide +kernel)]; exact ⟨rfl, rfl⟩))
    (fun os started H enc _ => may_lifted os started H enc)

theorem may_card : Rows.LabelsMayCardSaid :=
  Claim7.holds_tied_plain_at .later [] [.data, .data, .data, .data, .sentinel, .sentinel, .pinned] true (true, "2cd67c59be00145e6f157e59de45b90e980a9586b54776cf036336b0a8d3dc7a") true
    may_holds (fun _ h => by cases h) (by kernel_rfl) (fun _ h => by cases h) labelsMay_row_tie rfl ⟨rfl, rfl⟩ (by kernel_rfl) rfl
    (fun f fn hf hfn => by
      obtain rfl : f = 4 := Option.some.inj ((show Tryz.prog.funcNamed "baton/batonlaw05.LabelsMay" = some 4 by kernel_rfl).symm.trans hf) |>.symm
      obtain rfl : fn = Tryz.f4 := (Option.some.inj (Tryz.func4.symm.trans hfn)).symm
      exact ⟨by kernel_rfl, fun j t ht => by
        rw [Tryz.params4] at ht
        match j, ht with
        | 0, ht => cases ht; exact (show Tryz.prog.wantsStandIn 9 = false by kernel_rfl)
        | 1, ht => cases ht; exact (show Tryz.prog.wantsStandIn 22 = false by kernel_rfl)
        | 2, ht => cases ht; exact (show Tryz.prog.wantsStandIn 22 = false by kernel_rfl)
        | j + 3, ht => simp at ht⟩)
    (by kernel_rfl)
end Go.Proofs.YtkpjfibpaojelaaGreatDoor
