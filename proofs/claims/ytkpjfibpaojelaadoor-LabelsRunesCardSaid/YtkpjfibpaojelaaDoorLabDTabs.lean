/- labels: utf8.ValidString and DecodeRuneInString, by the library's contracts. -/
import Derived.Test.YtkpjfibpaojelaaDoorLabDShelf
import Derived.Test.YtkpjfibpaojelaaDoorLabDB
namespace Go.Proofs.YtkpjfibpaojelaaDoor
open Go Go.Abs Go.RowKit
set_option maxRecDepth 100000
set_option maxHeartbeats 2000000

theorem laid_get {h : Heap} (hl : Laid0 h) {b : Nat} {k : IntKind} {zs : List Nat} (c : ∀ c, (laidHeap c laidL).get b = some (.cells (rowOf k zs) false (c b))) : ∃ ci, h.get b = some (.cells (rowOf k zs) false ci) := by
  obtain ⟨d, hs⟩ := hl
  exact ⟨_, hs _ _ (c d)⟩

theorem laid_cell {μ : Mu} {h : Heap} {n : Nat} {w : World} (hr : Rel Tryd.prog μ h n w) {b : Nat} (hb : b < Tryd.prog.globals.size) {k : IntKind} {zs : List Nat} {ci : CI} (hg : h.get b = some (.cells (rowOf k zs) false ci)) {i z : Nat} (hz : zs[i]? = some z) :
    w.cell? ⟨b, i, none⟩ = some (.int k z) := by
  obtain ⟨m, x, h1, h2, h3⟩ := hr.obj b _ hg
  obtain ⟨m', e1, e2, e3⟩ := hr.glob b hb
  rw [h1] at e1
  cases e1
  cases x with
  | cells c el fr =>
    obtain ⟨g1, g2, g3, _⟩ := h3
    have hv : (rowOf k zs)[i]? = some (.int k z) := by simp [rowOf, hz]
    obtain ⟨v', q1, q2⟩ := g3 i _ hv
    rw [e3, Nat.zero_add] at q1
    have := q2.flat_eq rfl
    subst this
    rw [e2] at h2
    rw [cell_of_block h2]
    exact q1
  | _ => exact h3.elim

theorem first_get : ∀ c, c < 256 → Go.Pinned.utf8FirstZ[c]? = some (Lib.firstT c) := by
  intro c hc
  have h : ∀ c : Fin 256, Go.Pinned.utf8FirstZ[c.val]? = some (Lib.firstT c.val) := by decide
  exact h ⟨c, hc⟩
theorem acc_get : ∀ i, i < 16 → accs.flatten[2 * i]? = some (Lib.accLo i) ∧ accs.flatten[2 * i + 1]? = some (Lib.accHi i) := by
  intro i hi
  have h : ∀ i : Fin 16, accs.flatten[2 * i.val]? = some (Lib.accLo i.val) ∧ accs.flatten[2 * i.val + 1]? = some (Lib.accHi i.val) := by decide
  exact h ⟨i, hi⟩

theorem tabs_of {μ : Mu} {h : Heap} {n : Nat} {w : World} (hl : Laid0 h) (hr : Rel Tryd.prog μ h n w) : Lib.Utf8Tabs 0 1 w := by
  obtain ⟨c0, h0⟩ := laid_get hl (b := 0) (k := .u8) (zs := Go.Pinned.utf8FirstZ) (fun c => by kernel_rfl)
  obtain ⟨c1, h1⟩ := laid_get hl (b := 1) (k := .u8) (zs := accs.flatten) (fun c => by kernel_rfl)
  have hG : (1 : Nat) < Tryd.prog.globals.size := of_decide_eq_true (by kernel_rfl)
  refine ⟨fun c hc => laid_cell hr (by omega) h0 (first_get c hc), fun i hi => ⟨laid_cell hr hG h1 (acc_get i hi).1, laid_cell hr hG h1 (acc_get i hi).2⟩⟩

/-- unicode/utf8.ValidString -/
theorem f12_spec {h : Heap} {n : Nat} (s : ByteArray) (hl : Laid0 h) (hs : s.data.toList.length < 9223372036854775808) : Tells Tryd.prog 12 [.string s] h n (.bool (Lib.validD s.data.toList)) :=
  Tells.of_calls rfl rfl fun _ w hr => Any.utf8_ValidString Tryd.laysValid s w (by simp at hs; omega) (tabs_of hl hr)

end Go.Proofs.YtkpjfibpaojelaaDoor
