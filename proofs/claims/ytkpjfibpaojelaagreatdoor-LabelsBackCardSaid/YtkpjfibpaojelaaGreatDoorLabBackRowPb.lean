/- Claim: 'batonlaw05.LabelsBack' returns true for any arguments, whatever the memory, and changes nothing that was there (labels that may be are shown, and read back from their text and from their key; others are refused). Condition: the listed package-level variables hold what the program's text lays. -/
import Derived.Test.YtkpjfibpaojelaaGreatDoorPb7
import Derived.Test.YtkpjfibpaojelaaGreatDoorCards
import Derived.SevenTiedAt
namespace Go.Proofs.YtkpjfibpaojelaaGreatDoor
open Go Go.Abs Go.ChangeShapes Go.RowKit Go.WideShapes
set_option maxRecDepth 100000
set_option maxHeartbeats 1000000
theorem back_calls {W : World} {v0 : Value} (hW : LaidW W laidL) (h0 : (v0 = .slice none 0 0 ∨ ∃ (bk off cap : Nat) (c : Array Value) (el : TypeId) (fr : Nat × Nat) (ls : List Lab), v0 = .slice (some ⟨bk, off, none⟩) ls.length cap ∧ ls.length ≤ cap ∧ cap ≤ maxLen ∧ W.heap[bk]? = some (.cells c el fr) ∧ off + 2 * ls.length ≤ c.size ∧ ∀ i y, (encLab.row ls)[i]? = some y → c[off + i]? = some y)) :
    Calls Tryz.prog 10 #[v0] W fun e W' => e = .returned (.bool true) ∧ Below W.heap.size W W' := by
  obtain ⟨c0, r0, ro0⟩ := hW.rel laidL_lt
  have l0 : Laid0 (laidHeap c0 laidL) := ⟨c0, Heap.sub_refl _⟩
  obtain ⟨m1, k1, n1, a0, cp0, ls0, r1, ro1, s0_, le0, e0, q0, b0⟩ := add_labels r0 ro0 h0
  have l1 := l0.sub s0_
  refine law_calls (args := #[.slice a0 ls0.length cp0]) ro1 r1 ⟨rfl, fun i x y hx hy => ?_⟩ (f10_spec ls0 q0 l1)
  match i, hx, hy with
  | 0, hx, hy => cases hx; cases hy; exact e0
  | i + 1, hx, _ => simp at hx
theorem back_own : ownKnob Tryz.prog.godebug = none := by kernel_rfl
theorem back_lifted (os : Os) (started : os.Started) (H : Type) (enc : TypeId × Value → H) :
    ReturnsInHanded {} Tryz.checked os 10 .any (fun w args => (Rows.labelsBackSpec.pre enc Tryz.prog Tryz.f10 [] false w args ∧ laidMetH Tryz.prog Rows.labelsBackRow.laid w) ∧ sizedMet enc Tryz.prog Tryz.f10 (OpenSpec.ofChange Rows.labelsBackSpec) false w args)
      (Rows.labelsBackSpec.post enc Tryz.prog Tryz.f10 false true false false) := by
  refine returnsInHanded_of_change_and (C := Tryz.checked) (X := fun w _ => laidMetH Tryz.prog Rows.labelsBackRow.laid w) (fun _ _ _ hh h => h.of_heap hh) back_own started (by kernel_rfl) Tryz.func10
    (ChangeSpec.witness_shaped (enc := enc) (C := Tryz.checked) (os := os) (X := fun w _ => laidMetH Tryz.prog Rows.labelsBackRow.laid w) false (World.laidAll Tryz.prog os Rows.labelsBackRow.laid) #[.slice none 0 0] 8 (World.laidAll_os _ _ _)
      (World.shaped_of_ZipB (by kernel_rfl) (by kernel_rfl)) (by kernel_rfl) (by kernel_rfl) (by kernel_rfl)
      (by rw [MakeChecks.laidMetH_plain _ _ _ (by kernel_rfl)]; exact laidMet_laidAll _ (by kernel_rfl) (by kernel_rfl))) ?_
  intro W base args ds gs before hval0 hW _ _ hL _
  have hval : ∀ (j : Nat) t v, Tryz.f10.params[j]? = some t → args[j]? = some v → Value.okWide Tryz.prog W .any base t v := hval0
  have hL' : laidMet Tryz.prog Rows.labelsNamesRow.laid W := by
    have h : laidMetH Tryz.prog Rows.labelsBackRow.laid W := hL
    rwa [MakeChecks.laidMetH_plain _ _ _ (by kernel_rfl)] at h
  have hW' := hW
  obtain ⟨p, q, hA0, hV, rfl, hfz, hnd⟩ := hW
  have hA : DataW.TrodAll enc Tryz.prog W 0 (fun _ => true) true Tryz.f10.params.toList args.toList ds p := hA0
  rw [Tryz.params10] at hA hval
  obtain ⟨v0, d0, rfl, rfl, h0⟩ := trodAll_one hA
  have hs0 := open_labels (hval 0 22 v0 rfl rfl) h0
  refine (back_calls  (laidW_of hL') hs0).mono fun e W' ⟨he, hb⟩ => ?_
  subst he
  exact ⟨_, rfl, post_below (tb := 4) (by kernel_rfl) hW' rfl (by kernel_rfl) (by kernel_rfl) (by kernel_rfl) (fun h => by subst h; rfl) hb⟩
theorem back_holds : Rows.LabelsBackSaid :=
  OpenClaim.holds_of_wide 10 Tryz.f10 rfl rfl rfl rfl rfl rfl rfl ⟨rfl, rfl, rfl, rfl, rfl⟩ rfl rfl rfl rfl rfl (by kernel_rfl) Tryz.func10 (by kernel_rfl)
    (of_decide_eq_true (by kernel_rfl)) (by unfold Func.isWrapper; first | (rw [if_pos (by decide +kernel)]; kernel_rfl) | (rw [if_neg (by decide +kernel)]; exact ⟨rfl, rfl⟩))
    (fun os started H enc _ => back_lifted os started H enc)
theorem back_card : Rows.LabelsBackCardSaid :=
  Claim7.holds_tied_plain_at .later [] [.data, .data, .data, .data, .sentinel, .sentinel, .pinned] true (true, "2cd67c59be00145e6f157e59de45b90e980a9586b54776cf036336b0a8d3dc7a") true
    back_holds (fun _ h => by cases h) (by kernel_rfl) (fun _ h => by cases h) labelsBack_row_tie rfl ⟨rfl, rfl⟩ (by kernel_rfl) rfl
    (fun f fn hf hfn => by
      obtain rfl : f = 10 := Option.some.inj ((show Tryz.prog.funcNamed "baton/batonlaw05.LabelsBack" = some 10 by kernel_rfl).symm.trans hf) |>.symm
      obtain rfl : fn = Tryz.f10 := (Option.some.inj (Tryz.func10.symm.trans hfn)).symm
      exact ⟨by kernel_rfl, fun j t ht => by
        rw [Tryz.params10] at ht
        match j, ht with
        | 0, ht => cases ht; exact (show Tryz.prog.wantsStandIn 22 = false by kernel_rfl)
        | j + 1, ht => simp at ht⟩)
    (by kernel_rfl)
end Go.Proofs.YtkpjfibpaojelaaGreatDoor
