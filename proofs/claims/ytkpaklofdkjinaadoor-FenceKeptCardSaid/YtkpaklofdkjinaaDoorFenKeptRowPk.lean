/- Claim: 'batonlaw23.FenceKept' returns true for any arguments, whatever the memory, and changes nothing that was there (what was kept of batches, taken again by a state of nothing, comes to the same state; what is put together of what a state tells is that state). Condition: the listed package-level variables hold what the program's text lays. -/
import Derived.Test.YtkpaklofdkjinaaDoorPk8
import Derived.Test.YtkpaklofdkjinaaDoorCards
import Derived.SevenTiedAt
set_option linter.unusedVariables false
set_option linter.unusedSimpArgs false
set_option linter.unusedSectionVars false
namespace Go.Proofs.YtkpaklofdkjinaaDoor
open Go Go.Abs Go.ChangeShapes Go.RowKit Go.WideShapes
set_option maxRecDepth 100000
set_option maxHeartbeats 1000000
theorem kept_calls {W : World} {v0 : Value} {bs0 : List Bat} (hW : LaidW W laidL) (h0 : OBats W v0 bs0) :
    Calls Tryd.prog 7 #[v0] W fun e W' => e = .returned (.bool true) ∧ Below W.heap.size W W' := by
  obtain ⟨c0, r0, ro0⟩ := hW.rel laidL_lt
  have l0 : Laid0 (laidHeap c0 laidL) := ⟨c0, Heap.sub_refl _⟩
  obtain ⟨m1, k1, n1, a0, cp0, rs0, r1, ro1, s0_, le0, e0, q0, d0, b0⟩ := add_bats r0 ro0 h0
  have l1 := l0.sub s0_
  refine law_calls (args := #[.slice a0 rs0.length cp0]) ro1 r1 ⟨rfl, fun i x y hx hy => ?_⟩ (kept_spec rs0 bs0 q0 d0 l1 b0)
  match i, hx, hy with
  | 0, hx, hy => cases hx; cases hy; exact e0
  | i + 1, hx, _ => simp at hx
theorem kept_own : ownKnob Tryd.prog.godebug = none := by kernel_rfl
theorem kept_lifted (os : Os) (started : os.Started) (H : Type) (enc : TypeId × Value → H) :
    ReturnsInHanded {} Tryd.checked os 7 .any (fun w args => (Rows.fenceKeptSpec.pre enc Tryd.prog Tryd.f7 [] false w args ∧ laidMetH Tryd.prog Rows.fenceKeptRow.laid w) ∧ sizedMet enc Tryd.prog Tryd.f7 (OpenSpec.ofChange Rows.fenceKeptSpec) false w args)
      (Rows.fenceKeptSpec.post enc Tryd.prog Tryd.f7 false true false false) := by
  refine returnsInHanded_of_change_and (C := Tryd.checked) (X := fun w _ => laidMetH Tryd.prog Rows.fenceKeptRow.laid w) (fun _ _ _ hh h => h.of_heap hh) kept_own started (by kernel_rfl) Tryd.func7
    (ChangeSpec.witness_shaped (enc := enc) (C := Tryd.checked) (os := os) (X := fun w _ => laidMetH Tryd.prog Rows.fenceKeptRow.laid w) false (World.laidAll Tryd.prog os Rows.fenceKeptRow.laid) #[.slice none 0 0] 8 (World.laidAll_os _ _ _)
      (World.shaped_of_ZipB (by kernel_rfl) (by kernel_rfl)) (by kernel_rfl) (by kernel_rfl) (by kernel_rfl)
      (by rw [MakeChecks.laidMetH_plain _ _ _ (by kernel_rfl)]; exact laidMet_laidAll _ (by kernel_rfl) (by kernel_rfl))) ?_
  intro W base args ds gs before hval0 hW _ _ hL _
  have hval : ∀ (j : Nat) t v, Tryd.f7.params[j]? = some t → args[j]? = some v → Value.okWide Tryd.prog W .any base t v := hval0
  have hL' : laidMet Tryd.prog Rows.fenceApartRow.laid W := by
    have h : laidMetH Tryd.prog Rows.fenceKeptRow.laid W := hL
    rwa [MakeChecks.laidMetH_plain _ _ _ (by kernel_rfl)] at h
  have hW' := hW
  obtain ⟨p, q, hA0, hV, rfl, hfz, hnd⟩ := hW
  have hA : DataW.TrodAll enc Tryd.prog W 0 (fun _ => true) true Tryd.f7.params.toList args.toList ds p := hA0
  rw [Tryd.params7] at hA hval
  obtain ⟨v0, d0, rfl, rfl, h0⟩ := trodAll_one hA
  obtain ⟨a0, len0, cap0, rfl⟩ := okWide_slice Tryd.underlying22 (hval 0 22 v0 rfl rfl)
  obtain ⟨fuel0, hf0⟩ := h0
  obtain ⟨bs0, hs0⟩ := open_bats hf0
  refine (kept_calls  (laidW_of hL') hs0).mono fun e W' ⟨he, hb⟩ => ?_
  subst he
  exact ⟨_, rfl, post_below (tb := 4) (by kernel_rfl) hW' rfl (by kernel_rfl) (by kernel_rfl) (by kernel_rfl) (fun h => by subst h; rfl) hb⟩
theorem kept_holds : Rows.FenceKeptSaid :=
  OpenClaim.holds_of_wide 7 Tryd.f7 rfl rfl rfl rfl rfl rfl rfl ⟨rfl, rfl, rfl, rfl, rfl⟩ rfl rfl rfl rfl rfl (by kernel_rfl) Tryd.func7 (by kernel_rfl)
    (of_decide_eq_true (by kernel_rfl)) (by unfold Func.isWrapper; first | (rw [if_pos (by decide +kernel)]; kernel_rfl) | (rw [if_neg (by decide +kernel)]; exact ⟨rfl, rfl⟩))
    (fun os started H enc _ => kept_lifted os started H enc)
theorem kept_card : Rows.FenceKeptCardSaid :=
  Claim7.holds_tied_plain_at .later [] [.data, .pinned] true (true, "b7ba32aa656e3f4ed0ffcd159028cd7cee6d9944f6ef17273fe1813998ce1728") true
    kept_holds (fun _ h => by cases h) (by kernel_rfl) (fun _ h => by cases h) fenceKept_row_tie rfl ⟨rfl, rfl⟩ (by kernel_rfl) rfl
    (fun f fn hf hfn => by
      obtain rfl : f = 7 := Option.some.inj ((show Tryd.prog.funcNamed "baton/batonlaw23.FenceKept" = some 7 by kernel_rfl).symm.trans hf) |>.symm
      obtain rfl : fn = Tryd.f7 := (Option.some.inj (Tryd.func7.symm.trans hfn)).symm
      exact ⟨by kernel_rfl, fun j t ht => by
        rw [Tryd.params7] at ht
        match j, ht with
        | 0, ht => cases ht; exact (show Tryd.prog.wantsStandIn 22 = false by kernel_rfl)
        | j + 1, ht => simp at ht⟩)
    (by kernel_rfl)
end Go.Proofs.YtkpaklofdkjinaaDoor
