/- Claim: 'batonlaw05.LabelsNames' returns true, whatever the memory, and changes nothing that was there. Condition: the listed package-level variables hold what the program's text lays. -/
import Derived.Test.YtkpjfibpaojelaaGreatDoorLab4
import Derived.Test.YtkpjfibpaojelaaGreatDoorCards
import Derived.SevenTiedAt
namespace Go.Proofs.YtkpjfibpaojelaaGreatDoor
open Go Go.Abs Go.ChangeShapes
set_option maxRecDepth 100000

def tabAll : Tab := tabA ++ ((tabV0 ++ tabV1) ++ (tabP0 ++ (tabP1 ++ (tabP2 ++ tabP3))))
theorem tabAll_ok : TabOk Tryz.prog laidL tabAll := tabA_ok.append ((tabV0_ok.append tabV1_ok).append (tabP0_ok.append (tabP1_ok.append (tabP2_ok.append tabP3_ok))))
def tabN : Tab := [(8, [], .bool true)]
theorem tabN_run (c : Nat → CI) : tabB Tryz.prog plans (tabOv laidL tabAll) (laidHeap c laidL) tabN = true := by kernel_rfl
theorem tabN_ok : TabOk Tryz.prog laidL tabN := TabOk.of_run pok plans_ok laidL_lt tabAll_ok tabN_run

theorem names_own : ownKnob Tryz.prog.godebug = none := by kernel_rfl

theorem names_lifted (os : Os) (started : os.Started) (H : Type) (enc : TypeId × Value → H) :
    ReturnsInHanded {} Tryz.checked os 8 .any (fun w args => (Rows.labelsNamesSpec.pre enc Tryz.prog Tryz.f8 [] false w args ∧ laidMetH Tryz.prog Rows.labelsNamesRow.laid w) ∧ sizedMet enc Tryz.prog Tryz.f8 (OpenSpec.ofChange Rows.labelsNamesSpec) false w args)
      (Rows.labelsNamesSpec.post enc Tryz.prog Tryz.f8 false true false false) := by
  refine returnsInHanded_of_change_and (C := Tryz.checked) (X := fun w _ => laidMetH Tryz.prog Rows.labelsNamesRow.laid w) (fun _ _ _ hh h => h.of_heap hh) names_own started (by kernel_rfl) Tryz.func8
    (ChangeSpec.witness_shaped (enc := enc) (C := Tryz.checked) (os := os) (X := fun w _ => laidMetH Tryz.prog Rows.labelsNamesRow.laid w) false (World.laidAll Tryz.prog os Rows.labelsNamesRow.laid) #[] 8 (World.laidAll_os _ _ _)
      (World.shaped_of_ZipB (by kernel_rfl) (by kernel_rfl)) (by kernel_rfl) (by kernel_rfl) (by kernel_rfl)
      (by rw [MakeChecks.laidMetH_plain _ _ _ (by kernel_rfl)]; exact laidMet_laidAll _ (by kernel_rfl) (by kernel_rfl))) ?_
  intro W base args ds gs before hval hW _ _ hL _
  have hL' : laidMet Tryz.prog Rows.labelsNamesRow.laid W := by
    have h : laidMetH Tryz.prog Rows.labelsNamesRow.laid W := hL
    rwa [MakeChecks.laidMetH_plain _ _ _ (by kernel_rfl)] at h
  have hW' := hW
  obtain ⟨p, q, hA0, hV, rfl, hfz, hnd⟩ := hW
  have hA : DataW.TrodAll enc Tryz.prog W 0 (fun _ => true) true Tryz.f8.params.toList args.toList ds p := hA0
  rw [Tryz.params8] at hA
  obtain ⟨rfl, rfl, rfl⟩ := trodAll_none hA
  refine (closed_calls (laidW_of hL') laidL_lt fun c => (tabN_ok _ (List.mem_singleton.2 rfl)).2.2 c).mono fun e W' ⟨he, hb⟩ => ?_
  subst he
  exact ⟨_, rfl, post_below (tb := 4) (by kernel_rfl) hW' rfl (by kernel_rfl) (by kernel_rfl) (by kernel_rfl) (fun h => by subst h; rfl) hb⟩

theorem names_holds : Rows.LabelsNamesSaid :=
  OpenClaim.holds_of_wide 8 Tryz.f8 rfl rfl rfl rfl rfl rfl rfl ⟨rfl, rfl, rfl, rfl, rfl⟩ rfl rfl rfl rfl rfl (by kernel_rfl) Tryz.func8 (by kernel_rfl)
    (of_decide_eq_true (by kernel_rfl)) (by unfold Func.isWrapper; first | (rw [if_pos (by decide +kernel)]; kernel_rfl) | (rw [if_neg (by decide +kernel)]; exact ⟨rfl, rfl⟩))
    (fun os started H enc _ => names_lifted os started H enc)

theorem names_card : Rows.LabelsNamesCardSaid :=
  Claim7.holds_tied_plain_at .later [] [.data, .data, .data, .data, .sentinel, .sentinel, .pinned] true (true, "2cd67c59be00145e6f157e59de45b90e980a9586b54776cf036336b0a8d3dc7a") true
    names_holds (fun _ h => by cases h) (by kernel_rfl) (fun _ h => by cases h) labelsNames_row_tie rfl ⟨rfl, rfl⟩ (by kernel_rfl) rfl
    (fun f fn hf hfn => by
      obtain rfl : f = 8 := Option.some.inj ((show Tryz.prog.funcNamed "baton/batonlaw05.LabelsNames" = some 8 by kernel_rfl).symm.trans hf) |>.symm
      obtain rfl : fn = Tryz.f8 := (Option.some.inj (Tryz.func8.symm.trans hfn)).symm
      exact ⟨by kernel_rfl, fun j t ht => by
        rw [Tryz.params8] at ht
        simp at ht⟩)
    (by kernel_rfl)
end Go.Proofs.YtkpjfibpaojelaaGreatDoor
