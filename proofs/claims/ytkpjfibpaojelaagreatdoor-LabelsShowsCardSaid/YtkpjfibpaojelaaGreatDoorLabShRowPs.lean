/- Claim: 'batonlaw05.LabelsShows' returns true for any arguments, whatever the memory, and changes nothing that was there (any labels are shown as the document shows them, and any text is read as the document reads it). Condition: the listed package-level variables hold what the program's text lays. -/
import Derived.Test.YtkpjfibpaojelaaGreatDoorPs8
import Derived.Test.YtkpjfibpaojelaaGreatDoorCards
import Derived.SevenTiedAt
namespace Go.Proofs.YtkpjfibpaojelaaGreatDoor
open Go Go.Abs Go.ChangeShapes Go.RowKit Go.WideShapes
set_option maxRecDepth 100000
set_option maxHeartbeats 1000000
theorem shows_calls {W : World} {v0 : Value} (s1 : ByteArray) (hW : LaidW W laidL) (h0 : (v0 = .slice none 0 0 ∨ ∃ (bk off cap : Nat) (c : Array Value) (el : TypeId) (fr : Nat × Nat) (ls : List Lab), v0 = .slice (some ⟨bk, off, none⟩) ls.length cap ∧ ls.length ≤ cap ∧ cap ≤ maxLen ∧ W.heap[bk]? = some (.cells c el fr) ∧ off + 2 * ls.length ≤ c.size ∧ ∀ i y, (encLab.row ls)[i]? = some y → c[off + i]? = some y)) :
    Calls Tryz.prog 3 #[v0, .string s1] W fun e W' => e = .returned (.bool true) ∧ Below W.heap.size W W' := by
  obtain ⟨c0, r0, ro0⟩ := hW.rel laidL_lt
  have l0 : Laid0 (laidHeap c0 laidL) := ⟨c0, Heap.sub_refl _⟩
  obtain ⟨m1, k1, n1, a0, cp0, ls0, r1, ro1, s0_, le0, e0, q0, b0⟩ := add_labels r0 ro0 h0
  have l1 := l0.sub s0_
  refine law_calls (args := #[.slice a0 ls0.length cp0, .string s1]) ro1 r1 ⟨rfl, fun i x y hx hy => ?_⟩ (f3_spec ls0 s1 q0 l1)
  match i, hx, hy with
  | 0, hx, hy => cases hx; cases hy; exact e0
  | 1, hx, hy => cases hx; cases hy; exact .string _
  | i + 2, hx, _ => simp at hx
theorem shows_own : ownKnob Tryz.prog.godebug = none := by kernel_rfl
theorem shows_lifted (os : Os) (started : os.Started) (H : Type) (enc : TypeId × Value → H) :
    ReturnsInHanded {} Tryz.checked os 3 .any (fun w args => (Rows.labelsShowsSpec.pre enc Tryz.prog Tryz.f3 [] false w args ∧ laidMetH Tryz.prog Rows.labelsShowsRow.laid w) ∧ sizedMet enc Tryz.prog Tryz.f3 (OpenSpec.ofChange Rows.labelsShowsSpec) false w args)
      (Rows.labelsShowsSpec.post enc Tryz.prog Tryz.f3 false true false false) := by
  refine returnsInHanded_of_change_and (C := Tryz.checked) (X := fun w _ => laidMetH Tryz.prog Rows.labelsShowsRow.laid w) (fun _ _ _ hh h => h.of_heap hh) shows_own started (by kernel_rfl) Tryz.func3
    (ChangeSpec.witness_shaped (enc := enc) (C := Tryz.checked) (os := os) (X := fun w _ => laidMetH Tryz.prog Rows.labelsShowsRow.laid w) false (World.laidAll Tryz.prog os Rows.labelsShowsRow.laid) #[.slice none 0 0, .string ⟨#[]⟩] 8 (World.laidAll_os _ _ _)
      (World.shaped_of_ZipB (by kernel_rfl) (by kernel_rfl)) (by kernel_rfl) (by kernel_rfl) (by kernel_rfl)
      (by rw [MakeChecks.laidMetH_plain _ _ _ (by kernel_rfl)]; exact laidMet_laidAll _ (by kernel_rfl) (by kernel_rfl))) ?_
  intro W base args ds gs before hval0 hW _ _ hL _
  have hval : ∀ (j : Nat) t v, Tryz.f3.params[j]? = some t → args[j]? = some v → Value.okWide Tryz.prog W .any base t v := hval0
  have hL' : laidMet Tryz.prog Rows.labelsNamesRow.laid W := by
    have h : laidMetH Tryz.prog Rows.labelsShowsRow.laid W := hL
    rwa [MakeChecks.laidMetH_plain _ _ _ (by kernel_rfl)] at h
  have hW' := hW
  obtain ⟨p, q, hA0, hV, rfl, hfz, hnd⟩ := hW
  have hA : DataW.TrodAll enc Tryz.prog W 0 (fun _ => true) true Tryz.f3.params.toList args.toList ds p := hA0
  rw [Tryz.params3] at hA hval
  obtain ⟨v0, v1, d0, d1, p0, p1, rfl, rfl, rfl, h0, h1⟩ := trodAll_two hA
  have hs0 := open_labels (hval 0 22 v0 rfl rfl) h0
  obtain ⟨s1, rfl, rfl, rfl, _⟩ := _root_.Go.ChangeMaps.open_string und9 (hval 1 9 v1 rfl rfl) h1
  refine (shows_calls s1 (laidW_of hL') hs0).mono fun e W' ⟨he, hb⟩ => ?_
  subst he
  exact ⟨_, rfl, post_below (tb := 4) (by kernel_rfl) hW' rfl (by kernel_rfl) (by kernel_rfl) (by kernel_rfl) (fun h => by subst h; rfl) hb⟩
theorem shows_holds : Rows.LabelsShowsSaid :=
  OpenClaim.holds_of_wide 3 Tryz.f3 rfl rfl rfl rfl rfl rfl rfl ⟨rfl, rfl, rfl, rfl, rfl⟩ rfl rfl rfl rfl rfl (by kernel_rfl) Tryz.func3 (by kernel_rfl)
    (of_decide_eq_true (by kernel_rfl)) (by unfold Func.isWrapper; first | (rw [if_pos (by decide +kernel)]; kernel_rfl) | (rw [if_neg (by decide +kernel)]; exact ⟨rfl, rfl⟩))
    (fun os started H enc _ => shows_lifted os started H enc)
theorem shows_card : Rows.LabelsShowsCardSaid :=
  Claim7.holds_tied_plain_at .later [] [.data, .data, .data, .data, .sentinel, .sentinel, .pinned] true (true, "2cd67c59be00145e6f157e59de45b90e980a9586b54776cf036336b0a8d3dc7a") true
    shows_holds (fun _ h => by cases h) (by kernel_rfl) (fun _ h => by cases h) labelsShows_row_tie rfl ⟨rfl, rfl⟩ (by kernel_rfl) rfl
    (fun f fn hf hfn => by
      obtain rfl : f = 3 := Option.some.inj ((show Tryz.prog.funcNamed "baton/batonlaw05.LabelsShows" = some 3 by kernel_rfl).symm.trans hf) |>.symm
      obtain rfl : fn = Tryz.f3 := (Option.some.inj (Tryz.func3.symm.trans hfn)).symm
      exact ⟨by kernel_rfl, fun j t ht => by
        rw [Tryz.params3] at ht
        match j, ht with
        | 0, ht => cases ht; exact (show Tryz.prog.wantsStandIn 22 = false by kernel_rfl)
        | 1, ht => cases ht; exact (show Tryz.prog.wantsStandIn 9 = false by kernel_rfl)
        | j + 2, ht => simp at ht⟩)
    (by kernel_rfl)
end Go.Proofs.YtkpjfibpaojelaaGreatDoor
