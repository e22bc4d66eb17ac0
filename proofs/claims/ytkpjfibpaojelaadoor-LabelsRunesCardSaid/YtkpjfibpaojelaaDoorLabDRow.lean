/- Claim: 'batonlaw05.LabelsRunes' returns true for any arguments, whatever the memory, and changes nothing that was there (of two values that may be, put together, it is their runes that count; a value's bytes cut within a rune may not be). Condition: the listed package-level variables hold what the program's text lays. -/
import Derived.Test.YtkpjfibpaojelaaDoorLabDL
import Derived.Test.YtkpjfibpaojelaaDoorCards
import Derived.SevenTiedAt
namespace Go.Proofs.YtkpjfibpaojelaaDoor
open Go Go.Abs Go.ChangeShapes Go.RowKit Go.WideShapes
set_option maxRecDepth 100000
set_option maxHeartbeats 1000000

theorem und9 : Tryd.prog.underlying 9 = some .string := by kernel_rfl
theorem law_calls {W : World} {f : FuncId} {args args' : Array Value} {μ : Mu} {h : Heap} {n : Nat} (ro : ∀ b o, h.get b = some o → o.excl = false) (hr : Rel Tryd.prog μ h n W) (ha : ARel μ args args') (c : Tells Tryd.prog f args.toList h n (.bool true)) :
    Calls Tryd.prog f args' W fun e W' => e = .returned (.bool true) ∧ Below W.heap.size W W' :=
  calls_of_acall ro hr ha rfl (ACall.mono c fun _ h' _ _ _ ⟨e, _, _⟩ => ⟨h', Heap.sub_refl _, e⟩)

theorem runes_calls {W : World} (s0 : ByteArray) (s1 : ByteArray) (z2 : Int) (hW : LaidW W laidL)  :
    Calls Tryd.prog 3 #[.string s0, .string s1, .int .i64 z2] W fun e W' => e = .returned (.bool true) ∧ Below W.heap.size W W' := by
  obtain ⟨c0, r0, ro0⟩ := hW.rel laidL_lt
  have l0 : Laid0 (laidHeap c0 laidL) := ⟨c0, Heap.sub_refl _⟩
  refine law_calls (args := #[.string s0, .string s1, .int .i64 z2]) ro0 r0 ⟨rfl, fun i x y hx hy => ?_⟩ (f3_spec s0 s1 z2 l0)
  match i, hx, hy with
  | 0, hx, hy => cases hx; cases hy; exact .string _
  | 1, hx, hy => cases hx; cases hy; exact .string _
  | 2, hx, hy => cases hx; cases hy; exact .int _ _
  | i + 3, hx, _ => simp at hx

theorem runes_own : ownKnob Tryd.prog.godebug = none := by kernel_rfl

theorem runes_lifted (os : Os) (started : os.Started) (H : Type) (enc : TypeId × Value → H) :
    ReturnsInHanded {} Tryd.checked os 3 .any (fun w args => (Rows.labelsRunesSpec.pre enc Tryd.prog Tryd.f3 [] false w args ∧ laidMetH Tryd.prog Rows.labelsRunesRow.laid w) ∧ sizedMet enc Tryd.prog Tryd.f3 (OpenSpec.ofChange Rows.labelsRunesSpec) false w args)
      (Rows.labelsRunesSpec.post enc Tryd.prog Tryd.f3 false true false false) := by
  refine returnsInHanded_of_change_and (C := Tryd.checked) (X := fun w _ => laidMetH Tryd.prog Rows.labelsRunesRow.laid w) (fun _ _ _ hh h => h.of_heap hh) runes_own started (by kernel_rfl) Tryd.func3
    (ChangeSpec.witness_shaped (enc := enc) (C := Tryd.checked) (os := os) (X := fun w _ => laidMetH Tryd.prog Rows.labelsRunesRow.laid w) false (World.laidAll Tryd.prog os Rows.labelsRunesRow.laid) #[.string ⟨#[]⟩, .string ⟨#[]⟩, .int .i64 0] 8 (World.laidAll_os _ _ _)
      (World.shaped_of_ZipB (by kernel_rfl) (by kernel_rfl)) (by kernel_rfl) (by kernel_rfl) (by kernel_rfl)
      (by rw [MakeChecks.laidMetH_plain _ _ _ (by kernel_rfl)]; exact laidMet_laidAll _ (by kernel_rfl) (by kernel_rfl))) ?_
  intro W base args ds gs before hval0 hW _ _ hL _
  have hval : ∀ (j : Nat) t v, Tryd.f3.params[j]? = some t → args[j]? = some v → Value.okWide Tryd.prog W .any base t v := hval0
  have hL' : laidMet Tryd.prog Rows.labelsRunesRow.laid W := by
    have h : laidMetH Tryd.prog Rows.labelsRunesRow.laid W := hL
    rwa [MakeChecks.laidMetH_plain _ _ _ (by kernel_rfl)] at h
  have hW' := hW
  obtain ⟨p, q, hA0, hV, rfl, hfz, hnd⟩ := hW
  have hA : DataW.TrodAll enc Tryd.prog W 0 (fun _ => true) true Tryd.f3.params.toList args.toList ds p := hA0
  rw [Tryd.params3] at hA hval
  obtain ⟨v0, v1, v2, d0, d1, d2, p0, p1, p2, rfl, rfl, rfl, h0, h1, h2⟩ := trodAll_three hA
  obtain ⟨s0, rfl, rfl, rfl, _⟩ := _root_.Go.ChangeMaps.open_string und9 (hval 0 9 v0 rfl rfl) h0
  obtain ⟨s1, rfl, rfl, rfl, _⟩ := _root_.Go.ChangeMaps.open_string und9 (hval 1 9 v1 rfl rfl) h1
  obtain ⟨z2, rfl, rfl, rfl, _⟩ := _root_.Go.ChangeShapes.open_int (k := .i64) (by kernel_rfl) (hval 2 3 v2 rfl rfl) h2
  refine (runes_calls s0 s1 z2 (laidW_of hL') ).mono fun e W' ⟨he, hb⟩ => ?_
  subst he
  exact ⟨_, rfl, post_below (tb := 4) (by kernel_rfl) hW' rfl (by kernel_rfl) (by kernel_rfl) (by kernel_rfl) (fun h => by subst h; rfl) hb⟩

theorem runes_holds : Rows.LabelsRunesSaid :=
  OpenClaim.holds_of_wide 3 Tryd.f3 rfl rfl rfl rfl rfl rfl rfl ⟨rfl, rfl, rfl, rfl, rfl⟩ rfl rfl rfl rfl rfl (by kernel_rfl) Tryd.func3 (by kernel_rfl)
    (of_decide_eq_true (by kernel_rfl)) (by unfold Func.isWrapper; first | (rw [if_pos (by decide +kernel)]; kernel_rfl) | (rw [if_neg (by decide +kernel)]; exact ⟨rfl, rfl⟩))
    (fun os started H enc _ => runes_lifted os started H enc)

theorem runes_card : Rows.LabelsRunesCardSaid :=
  Claim7.holds_tied_plain_at .later [] [.data, .data, .data, .data, .sentinel, .sentinel, .pinned] true (true, "de810aded446440c25b7d7eaa3524df89bb97b23a3f81f0e457476b4c63e0ad5") true
    runes_holds (fun _ h => by cases h) (by kernel_rfl) (fun _ h => by cases h) labelsRunes_row_tie rfl ⟨rfl, rfl⟩ (by kernel_rfl) rfl
    (fun f fn hf hfn => by
      obtain rfl : f = 3 := Option.some.inj ((show Tryd.prog.funcNamed "baton/batonlaw05.LabelsRunes" = some 3 by kernel_rfl).symm.trans hf) |>.symm
      obtain rfl : fn = Tryd.f3 := (Option.some.inj (Tryd.func3.symm.trans hfn)).symm
      exact ⟨by kernel_rfl, fun j t ht => by
        rw [Tryd.params3] at ht
        match j, ht with
        | 0, ht => cases ht; exact (show Tryd.prog.wantsStandIn 9 = false by kernel_rfl)
        | 1, ht => cases ht; exact (show Tryd.prog.wantsStandIn 9 = false by kernel_rfl)
        | 2, ht => cases ht; exact (show Tryd.prog.wantsStandIn 3 = false by kernel_rfl)
        | j + 3, ht => simp at ht⟩)
    (by kernel_rfl)
end Go.Proofs.YtkpjfibpaojelaaDoor
