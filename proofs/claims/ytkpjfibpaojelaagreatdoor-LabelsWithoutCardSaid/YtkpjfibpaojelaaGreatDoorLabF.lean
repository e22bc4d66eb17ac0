/- labels: Without, whole. -/
import Derived.Test.YtkpjfibpaojelaaGreatDoorLabD
namespace Go.Proofs.YtkpjfibpaojelaaGreatDoor
open Go Go.Abs
set_option maxRecDepth 100000
set_option maxHeartbeats 4000000

theorem f52_spec {h : Heap} {n : Nat} {a : Option Addr} {cp : Nat} (ls : List Lab) (hl : IsRow encLab h (.slice a ls.length cp) ls) (hlen : ls.length < 1000000) : Makes Tryz.prog 52 [.slice a ls.length cp] h n [] (fun v h2 _ => OwnRow encLab 40 h h2 v ls) := by
  rcases hl with ⟨rfl, hv | ⟨b, o, c, hv⟩⟩ | ⟨b, o, c, cs, own, ci, hv, h1, h2, h3, h4⟩
  · cases hv; exact f52_nil
  · cases hv; exact f52_some [] .empty (by decide)
  · cases hv; exact f52_some ls (.inr ⟨b, o, cp, cs, own, ci, rfl, h1, h2, h3, h4⟩) hlen

theorem f51_spec {h g : Heap} {n : Nat} {a : Option Addr} {cp cb : Nat} {ow : Bool} {cj : CI} (ls : List Lab) (name : ByteArray) (hl : OwnRow encLab 40 g h (.slice a ls.length cp) ls) (hlen : ls.length < 1000000) (hc : h.get cb = some (.cells [.string name] ow cj)) (hne : cb ∉ blkOf (.slice a ls.length cp)) :
    Makes Tryz.prog 51 [.slice a ls.length cp, .func (.func 53) #[] #[.pointer (some ⟨cb, 0, none⟩)]] h n (blkOf (.slice a ls.length cp)) (fun v h2 _ => IsRow encLab h2 v (woN name ls)) := by
  have hl0 := hl.is
  rcases hl with ⟨rfl, hv⟩ | ⟨b, cap, ci, hv, hb, h3, h4, h5, h6⟩
  · refine (Tells.makes (f51_nil name hl0 hc)).mono ?_
    rintro v h' n' _ _ _ ⟨rfl, rfl⟩
    exact hl0
  · cases hv
    have e : blkOf (.slice (some ⟨b, 0, none⟩) ls.length cp) = [b] := by
      have : ls ≠ [] := List.ne_nil_of_length_pos h5.1
      simp [blkOf, this]
    rw [e] at hne ⊢
    exact f51_row ls name hb h6 hlen hc (by simpa using hne)


/-- baton/labels.Without -/
theorem f31_spec {h : Heap} {n : Nat} {a : Option Addr} {cp : Nat} (ls : List Lab) (name : ByteArray) (hl : IsRow encLab h (.slice a ls.length cp) ls) (hlen : ls.length < 1000000) :
    Makes Tryz.prog 31 [.slice a (ls.length) cp, .string (name)] h n [] (fun v h2 _ => IsRow encLab h2 v (woN name ls)) := by
  refine Makes.free fun hf => ?_
  have hs : SubBut h h [] := .refl _ _
  have hn : n ≤ n := Nat.le_refl _
  have hf0 := hf
  refine Makes.of_bodyV (args := [.slice a (ls.length) cp, .string (name)]) (vs := [.slice a (ls.length) cp, .string (name), undef, undef, undef, undef, undef, undef, undef]) Tryz.func31 rfl rfl ?_
  refine AWp.seq ?_
  refine AWp.rowV (l := _) pok ?_
  have z_n : h.get n = none := hf0 _ hn
  refine sq.op rfl rfl (Does.box (cs := [.string (name)]) hf rfl rfl) ?_
  rintro _ h2 n3 ⟨rfl, hb1⟩ s4 hn2 hf
  refine sq.w ?_
  have hs := hs.trans s4
  have hn := Nat.le_trans hn hn2
  refine sq.c (v := .slice none (0) (0)) rfl rfl rfl rfl ?_
  refine sq.e ?_
  refine AWp.seq ?_
  refine AWp.rowV (l := _) pok ?_
  refine sq.c (v := .slice a (ls.length) cp) rfl rfl rfl rfl ?_
  refine sq.k rfl (CallsF.fn rfl (by kernel_rfl) rfl rfl) (f52_spec ls (hl.keep hs) hlen) ?_
  rintro v_o h5 n6 R_o s7 hn2 hf
  have d_o_n : ∀ c ∈ blkOf v_o, c ≠ n := fun c hc e => R_o.ne hb1 c hc (List.mem_singleton.2 e)
  have R_o := R_o.from hs.sub
  obtain ⟨a_o, cp_o, rfl⟩ := R_o.slice
  refine sq.w ?_
  have hb1 := s7.sub _ _ hb1
  have hs := hs.trans s7
  have hn := Nat.le_trans hn hn2
  refine sq.c (v := .func (.func 53) #[] #[.pointer (some ⟨n, 0, none⟩)]) rfl rfl rfl rfl ?_
  refine sq.k rfl (CallsF.fn rfl (by kernel_rfl) rfl rfl) (f51_spec ls name R_o (by omega) hb1 (fun hm => d_o_n _ hm rfl)) ?_
  rintro v_w h8 n9 R_w s10 hn2 hf
  refine sq.w ?_
  have hb1 := s10 _ _ (fun hm => d_o_n _ hm rfl) hb1
  have hs := R_o.fresh hs s10
  have hn := Nat.le_trans hn hn2
  refine sq.c (v := v_w) rfl rfl rfl rfl ?_
  refine sq.e ?_
  refine AWp.ret ?_
  -- end 1: 
  refine ⟨rfl, [v_w], rfl, v_w, rfl, hs, hn, ?_⟩
  exact R_w

end Go.Proofs.YtkpjfibpaojelaaGreatDoor
