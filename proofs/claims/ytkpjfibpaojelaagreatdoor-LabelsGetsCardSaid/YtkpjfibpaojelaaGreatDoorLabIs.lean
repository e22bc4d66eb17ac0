/- is: labels in new memory are held against others, and written over. -/
import Derived.Test.YtkpjfibpaojelaaGreatDoorLabSame
namespace Go.Proofs.YtkpjfibpaojelaaGreatDoor
open Go Go.Abs
set_option maxRecDepth 100000
set_option maxHeartbeats 1000000

theorem IsLab.inv {h : Heap} {v : Value} {ls : List Lab} (q : IsLab h v ls) : ∀ b o len cap, v = .slice (some ⟨b, o, none⟩) len cap → ∃ cs own ci, h.get b = some (.cells cs own ci) ∧ (cs.drop o).take (2 * ls.length) = labCells ls ∧ o + 2 * ls.length ≤ cs.length := by
  cases q with
  | nil => intro b o len cap e; cases e
  | row hb hc hle => intro b o len cap e; cases e; exact ⟨_, _, _, hb, hc, hle⟩

theorem index_raw {b o len cap i : Nat} (hi : i < len) : indexAddrE Tryz.prog 22 (.slice (some ⟨b, o, none⟩) len cap) (.int .i64 i) = some (.pointer (some ⟨b, o + i * 2, none⟩)) := by
  obtain ⟨inf, h40, h2, _⟩ := info40
  simp only [indexAddrE, und22, h40, h2, Int.toNat_natCast]
  rw [if_pos (by omega)]

theorem f17_spec {h h1 : Heap} {n0 n : Nat} {v w : Value} {ls ws : List Lab} (hfr : ∀ b, n0 ≤ b → h.get b = none) (hf : Fresh h h1 n0 v ls) (hw : IsLab h1 w ws) (hlen : ls.length < 1000000) (hlen2 : ws.length < 1000000) :
    ACall Tryz.prog 17 #[v, w] h1 n fun r h' n' => r = .ret (.bool (decide (ls = ws))) ∧ h' = h ∧ n ≤ n' := by
  suffices hs : ACall Tryz.prog 17 #[v, w] h1 n fun r h' n' => r = .ret (.bool (decide (ls = ws))) ∧ h.sub h' ∧ n ≤ n' from
    hs.mono fun r h' n' hn _ ⟨e, hs, _⟩ => ⟨h, hs, e, rfl, hn⟩
  obtain ⟨a, cp, rfl⟩ := hf.lab.slice
  have hown : ls ≠ [] → ∃ b cs ci, a = some ⟨b, 0, none⟩ ∧ n0 ≤ b ∧ h1.get b = some (.cells cs true ci) ∧ 2 * ls.length ≤ cs.length := by
    intro hne
    obtain ⟨b, cs, e, hb, hg⟩ := hf.own hne
    cases e
    obtain ⟨cs', own', ci', hb', hc, hle⟩ := hf.lab.inv b 0 _ _ rfl
    rw [hg] at hb'
    cases hb'
    exact ⟨b, cs, _, rfl, hb, hg, by omega⟩
  refine ACall.of_bodyV (args := [.slice a ls.length cp, w]) Tryz.func17 rfl rfl ?_
  refine AWp.seq ?_
  refine AWp.seq_region (l := _) pok ?_
  refine seqV.calm [_, _, _, _, _, _, _, _, _, _, _, _, _, _, _, _, _, _, _, _, _] (v := .bool _) rfl rfl rfl rfl ?_
  refine seqV.nil ?_
  refine AWp.seq ?_
  refine AWp.seq_region (l := _) pok ?_
  refine seqV.calm [_, _, _, _, _, _, _, _, _, _, _, _, _, _, _, _, _, _, _, _, _] (v := .slice _ _ _) rfl rfl rfl rfl ?_
  refine seqV.calm [_, _, _, _, _, _, _, _, _, _, _, _, _, _, _, _, _, _, _, _, _] (v := w) rfl rfl rfl rfl ?_
  refine seqV.callF _ (xs := _) rfl rfl (by kernel_rfl) rfl (fun _ => rfl) (ACall.ex (f27_spec hf.lab hw hlen hlen2)) ?_
  rintro v h1' n1 ⟨rfl, rfl, hn⟩
  refine seqV.norm [_, _, _, _, _, _, _, _, _, _, _, _, _, _, _, _, _, _, _, _, _] rfl ?_
  refine seqV.calm [_, _, _, _, _, _, _, _, _, _, _, _, _, _, _, _, _, _, _, _, _] (v := .bool _) rfl rfl rfl rfl ?_
  refine seqV.nil ?_
  refine AWp.seq ?_
  refine AWp.seq ?_
  refine AWp.seq_region (l := _) pok ?_
  refine seqV.calm [_, _, _, _, _, _, _, _, _, _, _, _, _, _, _, _, _, _, _, _, _] (v := .int _ _) rfl rfl rfl rfl ?_
  refine seqV.nil ?_
  refine AWp.block ?_
  refine AWp.loopV (fun d vs h' n' => h.sub h' ∧ n ≤ n' ∧ (ls ≠ [] → ∃ b cs ci, a = some ⟨b, 0, none⟩ ∧ n0 ≤ b ∧ h'.get b = some (.cells cs true ci) ∧ 2 * ls.length ≤ cs.length) ∧ ∃ i : Nat, d + i = ls.length + 1 ∧ ∃ x2 x3 x4 x7 x8 x9 x10 x11 x12 x13 x14 x15 x16 x17 x18 x19 x20, vs = [.slice a ls.length cp, w, x2, x3, x4, .bool (decide (ls = ws)), .int .i64 (i : Nat), x7, x8, x9, x10, x11, x12, x13, x14, x15, x16, x17, x18, x19, x20]) (ls.length + 1) ⟨hf.sub, hn, hown, 0, rfl, _, _, _, _, _, _, _, _, _, _, _, _, _, _, _, _, _, rfl⟩ ?_
  rintro d vs h' n' ⟨hsub, hn', hown', i, hdi, x2, x3, x4, x7, x8, x9, x10, x11, x12, x13, x14, x15, x16, x17, x18, x19, x20, rfl⟩
  refine AWp.seq ?_
  refine AWp.seq ?_
  refine AWp.seq_region (l := _) pok ?_
  refine seqV.calm [_, _, _, _, _, _, _, _, _, _, _, _, _, _, _, _, _, _, _, _, _] (v := .int _ _) rfl rfl rfl rfl ?_
  refine seqV.calm [_, _, _, _, _, _, _, _, _, _, _, _, _, _, _, _, _, _, _, _, _] (v := .slice _ _ _) rfl rfl rfl rfl ?_
  refine seqV.calm [_, _, _, _, _, _, _, _, _, _, _, _, _, _, _, _, _, _, _, _, _] (v := .int _ _) rfl rfl rfl rfl ?_
  refine seqV.calm [_, _, _, _, _, _, _, _, _, _, _, _, _, _, _, _, _, _, _, _, _] (v := .bool _) rfl rfl rfl rfl ?_
  refine seqV.nil ?_
  refine AWp.testV rfl rfl ?_ ?_
  · intro hc
    have hlt : (i : Int) < ls.length := by simpa using hc
    have hne : ls ≠ [] := by rintro rfl; simp at hlt; omega
    obtain ⟨b, cs, ci, rfl, hb, hg, hle⟩ := hown' hne
    refine AWp.skip ?_
    refine AWp.seq ?_
    refine AWp.block ?_
    refine AWp.seq_region (l := _) pok ?_
    refine seqV.calm [_, _, _, _, _, _, _, _, _, _, _, _, _, _, _, _, _, _, _, _, _] (v := .slice _ _ _) rfl rfl rfl rfl ?_
    refine seqV.calm [_, _, _, _, _, _, _, _, _, _, _, _, _, _, _, _, _, _, _, _, _] (v := .int _ _) rfl rfl rfl rfl ?_
    refine seqV.calm [_, _, _, _, _, _, _, _, _, _, _, _, _, _, _, _, _, _, _, _, _] (v := .agg _) rfl rfl rfl rfl ?_
    refine seqV.index [_, _, _, _, _, _, _, _, _, _, _, _, _, _, _, _, _, _, _, _, _] rfl rfl rfl rfl (index_raw (show i < ls.length by omega)) rfl ?_
    refine seqV.store (k := 2) rfl (by kernel_rfl) rfl rfl rfl rfl rfl hg rfl rfl (by omega) ?_
    refine seqV.nil ?_
    refine AWp.seq_region (l := _) pok ?_
    refine seqV.calm [_, _, _, _, _, _, _, _, _, _, _, _, _, _, _, _, _, _, _, _, _] (v := .int _ _) rfl rfl rfl rfl ?_
    refine seqV.calm [_, _, _, _, _, _, _, _, _, _, _, _, _, _, _, _, _, _, _, _, _] (v := .int .i64 ((i : Int) + 1)) rfl rfl (by show some (Value.int .i64 (IntKind.wrap .i64 ((i : Int) + 1))) = _; rw [wrap64_in (by omega) (by omega)]) rfl ?_
    refine seqV.calm [_, _, _, _, _, _, _, _, _, _, _, _, _, _, _, _, _, _, _, _, _] (v := .int .i64 ((i + 1 : Nat) : Int)) rfl rfl rfl rfl ?_
    refine seqV.nil ?_
    refine ⟨_, d - 1, rfl, by omega, ?_, hn', ?_, i + 1, by omega, _, _, _, _, _, _, _, _, _, _, _, _, _, _, _, _, _, rfl⟩
    · intro c x hx
      rw [Trie.get_set]
      split
      · rename_i e; subst e; rw [hfr _ hb] at hx; cases hx
      · exact hsub _ _ hx
    · intro _
      exact ⟨b, _, ci, rfl, hb, Trie.get_set_same _ _ _, by rw [length_setAll]; exact hle⟩
  · intro hc
    refine AWp.exit ?_
    refine AWp.seq ?_
    refine AWp.seq_region (l := _) pok ?_
    refine seqV.calm [_, _, _, _, _, _, _, _, _, _, _, _, _, _, _, _, _, _, _, _, _] (v := .bool _) rfl rfl rfl rfl ?_
    refine seqV.calm [_, _, _, _, _, _, _, _, _, _, _, _, _, _, _, _, _, _, _, _, _] (v := .bool _) rfl rfl rfl rfl ?_
    refine seqV.nil ?_
    refine AWp.ret ?_
    exact ⟨rfl, _, rfl, rfl, hsub, hn'⟩
end Go.Proofs.YtkpjfibpaojelaaGreatDoor
