/- Claim: 'batonlaw05.LabelsGets' returns true for any labels and any name, whatever the memory, and changes nothing that was there. Condition: the listed package-level variables hold what the program's text lays. -/
import Derived.Test.YtkpjfibpaojelaaGreatDoorLabOpen
import Derived.Test.YtkpjfibpaojelaaGreatDoorCards
import Derived.SevenTiedAt
namespace Go.Proofs.YtkpjfibpaojelaaGreatDoor
open Go Go.Abs Go.ChangeShapes Go.RowKit Go.WideShapes
set_option maxRecDepth 100000
set_option maxHeartbeats 1000000

theorem gets_calls {W : World} {v : Value} {name : ByteArray} (hW : LaidW W laidL)
    (hv : v = .slice none 0 0 ∨ ∃ (bk off cap : Nat) (c : Array Value) (el : TypeId) (fr : Nat × Nat) (ls : List Lab), v = .slice (some ⟨bk, off, none⟩) ls.length cap ∧ ls.length ≤ cap ∧ cap ≤ maxLen ∧ W.heap[bk]? = some (.cells c el fr) ∧ off + 2 * ls.length ≤ c.size ∧ ∀ i y, (labCells ls)[i]? = some y → c[off + i]? = some y) :
    Calls Tryz.prog 6 #[v, .string name] W fun e W' => e = .returned (.bool true) ∧ Below W.heap.size W W' := by
  obtain ⟨c0, hr, ro⟩ := hW.rel laidL_lt
  rcases hv with rfl | ⟨bk, off, cap, c, el, fr, ls, rfl, hlc, hcm, hb, hoff, hcells⟩
  · refine calls_of_acall (args := #[.slice none 0 0, .string name]) ro hr ⟨rfl, fun i x y hx hy => ?_⟩ rfl (f6_spec (ls := []) .nil (by decide) ⟨c0, Heap.sub_refl _⟩)
    match i, hx, hy with
    | 0, hx, hy => cases hx; cases hy; exact .snil
    | 1, hx, hy => cases hx; cases hy; exact .string _
    | i + 2, hx, _ => simp at hx
  · have hflat : ((labCells ls).all flat) = true := by
      rw [List.all_eq_true]
      intro y hy
      obtain ⟨x, _, hx⟩ := List.mem_flatMap.1 hy
      simp only [List.mem_cons, List.not_mem_nil, or_false] at hx
      rcases hx with rfl | rfl <;> rfl
    obtain ⟨hr1, ro1⟩ := hr.addRO ro (o := .cells (labCells ls) false ⟨el, 0, false⟩) (x := .cells c el fr) (m := ⟨bk, off, c.size, 0⟩) rfl hb
      ⟨rfl, by rw [labCells_length]; exact hoff, fun i y hy => ⟨y, hcells i y hy, .flat_self (List.all_eq_true.1 hflat y (List.mem_of_getElem? hy))⟩, by simp, rfl, rfl, by simp⟩
    have hmax : maxLen < U := by decide
    have hm : ls.length < 9223372036854775808 := Nat.lt_of_le_of_lt (Nat.le_trans hlc hcm) (by decide)
    refine calls_of_acall (args := #[.slice (some ⟨Tryz.prog.globals.size, 0, none⟩) ls.length cap, .string name]) ro1 hr1 ⟨rfl, fun i x y hx hy => ?_⟩ rfl
      (f6_spec (ls := ls) (IsLab.of_cells (Trie.get_set_same _ _ _)) hm ⟨c0, sub_set (hr.below (Nat.le_refl _))⟩)
    match i, hx, hy with
    | 0, hx, hy =>
      cases hx; cases hy
      have := VRel.slice (μ := (mu0 Tryz.prog W).set Tryz.prog.globals.size ⟨bk, off, c.size, 0⟩) (b := Tryz.prog.globals.size) 0 ls.length cap cap (Mu.set_same _ _ _) (.inl ⟨by omega, rfl⟩)
      exact this
    | 1, hx, hy => cases hx; cases hy; exact .string _
    | i + 2, hx, _ => simp at hx

theorem gets_own : ownKnob Tryz.prog.godebug = none := by kernel_rfl

theorem gets_lifted (os : Os) (started : os.Started) (H : Type) (enc : TypeId × Value → H) :
    ReturnsInHanded {} Tryz.checked os 6 .any (fun w args => (Rows.labelsGetsSpec.pre enc Tryz.prog Tryz.f6 [] false w args ∧ laidMetH Tryz.prog Rows.labelsGetsRow.laid w) ∧ sizedMet enc Tryz.prog Tryz.f6 (OpenSpec.ofChange Rows.labelsGetsSpec) false w args)
      (Rows.labelsGetsSpec.post enc Tryz.prog Tryz.f6 false true false false) := by
  refine returnsInHanded_of_change_and (C := Tryz.checked) (X := fun w _ => laidMetH Tryz.prog Rows.labelsGetsRow.laid w) (fun _ _ _ hh h => h.of_heap hh) gets_own started (by kernel_rfl) Tryz.func6
    (ChangeSpec.witness_shaped (enc := enc) (C := Tryz.checked) (os := os) (X := fun w _ => laidMetH Tryz.prog Rows.labelsGetsRow.laid w) false (World.laidAll Tryz.prog os Rows.labelsGetsRow.laid) #[.slice none 0 0, .string ⟨#[]⟩] 8 (World.laidAll_os _ _ _)
      (World.shaped_of_ZipB (by kernel_rfl) (by kernel_rfl)) (by kernel_rfl) (by kernel_rfl) (by kernel_rfl)
      (by rw [MakeChecks.laidMetH_plain _ _ _ (by kernel_rfl)]; exact laidMet_laidAll _ (by kernel_rfl) (by kernel_rfl))) ?_
  intro W base args ds gs before hval0 hW _ _ hL _
  have hval : ∀ (j : Nat) t v, Tryz.f6.params[j]? = some t → args[j]? = some v → Value.okWide Tryz.prog W .any base t v := hval0
  have hL' : laidMet Tryz.prog Rows.labelsNamesRow.laid W := by
    have h : laidMetH Tryz.prog Rows.labelsGetsRow.laid W := hL
    rwa [MakeChecks.laidMetH_plain _ _ _ (by kernel_rfl)] at h
  have hW' := hW
  obtain ⟨p, q, hA0, hV, rfl, hfz, hnd⟩ := hW
  have hA : DataW.TrodAll enc Tryz.prog W 0 (fun _ => true) true Tryz.f6.params.toList args.toList ds p := hA0
  rw [Tryz.params6] at hA hval
  obtain ⟨v0, v1, d0, d1, p0, p1, rfl, rfl, rfl, h0, h1⟩ := trodAll_two hA
  have hs := open_labels (hval 0 22 v0 rfl rfl) h0
  obtain ⟨name, rfl, rfl, rfl, _⟩ := _root_.Go.ChangeMaps.open_string und9 (hval 1 9 v1 rfl rfl) h1
  refine (gets_calls (laidW_of hL') hs).mono fun e W' ⟨he, hb⟩ => ?_
  subst he
  exact ⟨_, rfl, post_below (tb := 4) (by kernel_rfl) hW' rfl (by kernel_rfl) (by kernel_rfl) (by kernel_rfl) (fun h => by subst h; rfl) hb⟩

theorem gets_holds : Rows.LabelsGetsSaid :=
  OpenClaim.holds_of_wide 6 Tryz.f6 rfl rfl rfl rfl rfl rfl rfl ⟨rfl, rfl, rfl, rfl, rfl⟩ rfl rfl rfl rfl rfl (by kernel_rfl) Tryz.func6 (by kernel_rfl)
    (of_decide_eq_true (by kernel_rfl)) (by unfold Func.isWrapper; first | (rw [if_pos (by decide +kernel)]; kernel_rfl) | (rw [if_neg (by decide +kernel)]; exact ⟨rfl, rfl⟩))
    (fun os started H enc _ => gets_lifted os started H enc)

theorem gets_card : Rows.LabelsGetsCardSaid :=
  Claim7.holds_tied_plain_at .later [] [.data, .data, .data, .data, .sentinel, .sentinel, .pinned] true (true, "2cd67c59be00145e6f157e59de45b90e980a9586b54776cf036336b0a8d3dc7a") true
    gets_holds (fun _ h => by cases h) (by kernel_rfl) (fun _ h => by cases h) labelsGets_row_tie rfl ⟨rfl, rfl⟩ (by kernel_rfl) rfl
    (fun f fn hf hfn => by
      obtain rfl : f = 6 := Option.some.inj ((show Tryz.prog.funcNamed "baton/batonlaw05.LabelsGets" = some 6 by kernel_rfl).symm.trans hf) |>.symm
      obtain rfl : fn = Tryz.f6 := (Option.some.inj (Tryz.func6.symm.trans hfn)).symm
      exact ⟨by kernel_rfl, fun j t ht => by
        rw [Tryz.params6] at ht
        match j, ht with
        | 0, ht => cases ht; exact (show Tryz.prog.wantsStandIn 22 = false by kernel_rfl)
        | 1, ht => cases ht; exact (show Tryz.prog.wantsStandIn 9 = false by kernel_rfl)
        | j + 2, ht => simp at ht⟩)
    (by kernel_rfl)
end Go.Proofs.YtkpjfibpaojelaaGreatDoor
