/- labels: the law of names, values and labels: LabelsMay. -/
import Derived.Test.YtkpjfibpaojelaaGreatDoorLabO
import Derived.Test.YtkpjfibpaojelaaGreatDoorLab2
namespace Go.Proofs.YtkpjfibpaojelaaGreatDoor
open Go Go.Abs
set_option maxRecDepth 100000
set_option maxHeartbeats 4000000

theorem f13_spec {h : Heap} {n : Nat} (hl : Laid0 h) : Tells Tryz.prog 13 [] h n (.bool true) := by
  obtain ⟨c, hs⟩ := hl
  have := ACall.frame (P := Tryz.prog) (n := n) (laidHeap_ro c laidL_lt) hs (args := []) rfl (v := .bool true) rfl ((tabA_ok _ (List.mem_singleton.2 rfl)).2.2 c)
  exact this.mono fun _ h' _ hn _ ⟨a, b, _⟩ => ⟨h', Heap.sub_refl _, a, b, hn⟩

theorem f17_spec {h g : Heap} {n : Nat} {a a2 : Option Addr} {cp cp2 : Nat} (ls ms : List Lab) (hl : OwnRow encLab 40 g h (.slice a ls.length cp) ls) (hm : IsRow encLab h (.slice a2 ms.length cp2) ms) (hlen : ls.length < 9223372036854775808) :
    Makes Tryz.prog 17 [.slice a ls.length cp, .slice a2 ms.length cp2] h n (blkOf (.slice a ls.length cp)) (fun u _ _ => u = .bool (decide (ls = ms))) := by
  rcases hl with ⟨rfl, hv⟩ | ⟨b, cap, ci, hv, hb, h3, h4, h5, h6⟩
  · have e : blkOf (.slice a ([] : List Lab).length cp) = [] := by cases a <;> simp [blkOf]
    rw [e]
    exact f17_nil ms (.inl ⟨rfl, by
      rcases hv with hv | ⟨b, o, hv⟩
      · exact .inl hv
      · exact .inr ⟨b, o, 0, hv⟩⟩) hm
  · cases hv
    have e : blkOf (.slice (some ⟨b, 0, none⟩) ls.length cp) = [b] := by
      have : ls ≠ [] := List.ne_nil_of_length_pos h5.1
      simp [blkOf, this]
    rw [e]
    exact f17_row ls ms hb h5.2 hm hlen


/-- baton/batonlaw05.LabelsMay -/
theorem f4_spec {h : Heap} {n : Nat} {a1 a2 : Option Addr} {cp1 cp2 : Nat} (s : ByteArray) (la lb : List Lab) (hla : IsRow encLab h (.slice a1 la.length cp1) la) (hlb : IsRow encLab h (.slice a2 lb.length cp2) lb) (hld : Laid0 h) :
    Tells Tryz.prog 4 [.string (s), .slice a1 (la.length) cp1, .slice a2 (lb.length) cp2] h n (.bool true) := by
  refine Makes.tells (Makes.free fun hf => ?_)
  have hs : SubBut h h [] := .refl _ _
  have hn : n ≤ n := Nat.le_refl _
  have hf0 := hf
  refine Makes.of_bodyV (args := [.string (s), .slice a1 (la.length) cp1, .slice a2 (lb.length) cp2]) (vs := [.string (s), .slice a1 (la.length) cp1, .slice a2 (lb.length) cp2, undef, undef, undef, undef, undef, undef, undef, undef, undef, undef, undef, undef, undef, undef, undef, undef, undef, undef, undef, undef, undef, undef, undef, undef, undef, undef, undef, undef, undef, undef, undef, undef, undef, undef, undef, undef, undef, undef, undef, undef, undef, undef, undef, undef, undef, undef, undef, undef, undef, undef, undef, undef, undef, undef, undef, undef, undef, undef, undef, undef]) Tryz.func4 rfl rfl ?_
  refine AWp.seq ?_
  refine AWp.rowV (l := _) pok ?_
  refine sq.c (v := .bool false) rfl rfl rfl rfl ?_
  refine sq.e ?_
  refine AWp.seq ?_
  refine AWp.seq ?_
  refine AWp.rowV (l := _) pok ?_
  refine sq.c (v := .string (s)) rfl rfl rfl rfl ?_
  refine sq.c (v := .int .i64 ((((s).data.toList.length : Nat) : Int))) rfl rfl (by kernel_rfl) rfl ?_
  refine sq.c (v := .bool (decide ((3000 : Int) < ((((s).data.toList.length : Nat) : Int))))) rfl rfl rfl rfl ?_
  refine sq.c (v := .bool (decide ((3000 : Int) < ((((s).data.toList.length : Nat) : Int))))) rfl rfl rfl rfl ?_
  by_cases c1_2 : (3000 : Int) < ((((s).data.toList.length : Nat) : Int))
  · rw [decide_eq_true c1_2]
    refine sq.s (wantF (g := 3) (d := 11) rfl rfl rfl) rfl ?_
    refine sq.s (wantF (g := 3) (d := 11) rfl rfl rfl) rfl ?_
    refine sq.c (v := .bool true) rfl rfl rfl rfl ?_
    refine sq.c (v := .bool true) rfl rfl rfl rfl ?_
    refine sq.s (wantF (g := 7) (d := 15) rfl rfl rfl) rfl ?_
    refine sq.s (wantF (g := 7) (d := 15) rfl rfl rfl) rfl ?_
    refine sq.c (v := .bool true) rfl rfl rfl rfl ?_
    refine sq.e ?_
    refine AWp.condT rfl rfl ?_
    refine AWp.seq ?_
    refine AWp.rowV (l := _) pok ?_
    refine sq.t (v := .bool true) rfl (CallsF.fn rfl (by kernel_rfl) rfl rfl) (fun hf => f13_spec (hld.keep hs)) hf rfl ?_
    intro n1 hn2 hf
    have hn := Nat.le_trans hn hn2
    refine sq.c (v := .bool true) rfl rfl rfl rfl ?_
    refine sq.e ?_
    refine AWp.ret ?_
    -- end 1: c1_2
    refine ⟨rfl, [.bool true], rfl, .bool true, rfl, hs, hn, ?_⟩
    rfl
  · rw [decide_eq_false c1_2]
    refine sq.c (v := .slice a1 (la.length) cp1) (wantT (g := 3) (d := 11) rfl rfl rfl) rfl rfl rfl ?_
    refine sq.k (wantT (g := 3) (d := 11) rfl rfl rfl) (CallsF.fn rfl (by kernel_rfl) rfl rfl) (f12_spec la (hla.keep hs)) ?_
    rintro _ h2 n3 ⟨b_a, rfl, hb_a⟩ s4 hn2 hf
    refine sq.w ?_
    have hs := hs.trans s4
    have hn := Nat.le_trans hn hn2
    refine sq.c (v := .bool (b_a)) rfl rfl rfl rfl ?_
    refine sq.c (v := .bool (b_a)) rfl rfl rfl rfl ?_
    rcases Bool.eq_false_or_eq_true (b_a) with c_a | c_a
    · rw [c_a]
      refine sq.s (wantF (g := 7) (d := 15) rfl rfl rfl) rfl ?_
      refine sq.s (wantF (g := 7) (d := 15) rfl rfl rfl) rfl ?_
      refine sq.c (v := .bool true) rfl rfl rfl rfl ?_
      refine sq.e ?_
      refine AWp.condT rfl rfl ?_
      refine AWp.seq ?_
      refine AWp.rowV (l := _) pok ?_
      refine sq.t (v := .bool true) rfl (CallsF.fn rfl (by kernel_rfl) rfl rfl) (fun hf => f13_spec (hld.keep hs)) hf rfl ?_
      intro n5 hn2 hf
      have hn := Nat.le_trans hn hn2
      refine sq.c (v := .bool true) rfl rfl rfl rfl ?_
      refine sq.e ?_
      refine AWp.ret ?_
      -- end 2: ¬c1_2 c_a
      refine ⟨rfl, [.bool true], rfl, .bool true, rfl, hs, hn, ?_⟩
      rfl
    · rw [c_a]
      refine sq.c (v := .slice a2 (lb.length) cp2) (wantT (g := 7) (d := 15) rfl rfl rfl) rfl rfl rfl ?_
      refine sq.k (wantT (g := 7) (d := 15) rfl rfl rfl) (CallsF.fn rfl (by kernel_rfl) rfl rfl) (f12_spec lb (hlb.keep hs)) ?_
      rintro _ h6 n7 ⟨b_b, rfl, hb_b⟩ s8 hn2 hf
      refine sq.w ?_
      have hs := hs.trans s8
      have hn := Nat.le_trans hn hn2
      refine sq.c (v := .bool (b_b)) rfl rfl rfl rfl ?_
      refine sq.e ?_
      rcases Bool.eq_false_or_eq_true (b_b) with c_b | c_b
      · rw [c_b]
        refine AWp.condT rfl rfl ?_
        refine AWp.seq ?_
        refine AWp.rowV (l := _) pok ?_
        refine sq.t (v := .bool true) rfl (CallsF.fn rfl (by kernel_rfl) rfl rfl) (fun hf => f13_spec (hld.keep hs)) hf rfl ?_
        intro n9 hn2 hf
        have hn := Nat.le_trans hn hn2
        refine sq.c (v := .bool true) rfl rfl rfl rfl ?_
        refine sq.e ?_
        refine AWp.ret ?_
        -- end 3: ¬c1_2 ¬c_a c_b
        refine ⟨rfl, [.bool true], rfl, .bool true, rfl, hs, hn, ?_⟩
        rfl
      · rw [c_b]
        refine AWp.condF rfl rfl ?_
        refine AWp.skip ?_
        refine AWp.seq ?_
        refine AWp.rowV (l := _) pok ?_
        refine sq.c (v := .slice a1 (la.length) cp1) rfl rfl rfl rfl ?_
        refine sq.k rfl (CallsF.fn rfl (by kernel_rfl) rfl rfl) (f14_spec la (hla.keep hs) (by have := (hb_a c_a).1; omega)) ?_
        rintro v_oa h10 n11 R_oa s12 hn2 hf
        have R_oa := R_oa.from hs.sub
        obtain ⟨a_oa, cp_oa, rfl⟩ := R_oa.slice
        refine sq.w ?_
        have hs := hs.trans s12
        have hn := Nat.le_trans hn hn2
        refine sq.c (v := .slice a_oa (la.length) cp_oa) rfl rfl rfl rfl ?_
        refine sq.e ?_
        refine AWp.seq ?_
        refine AWp.rowV (l := _) pok ?_
        refine sq.c (v := .string (s)) rfl rfl rfl rfl ?_
        refine sq.t (v := .bool (mayNameB s)) rfl (CallsF.fn rfl (by kernel_rfl) rfl rfl) (fun hf => f20_spec s (by omega)) hf rfl ?_
        intro n13 hn2 hf
        have hn := Nat.le_trans hn hn2
        refine sq.c (v := .string (s)) rfl rfl rfl rfl ?_
        refine sq.t (v := .bool (mayNameB s)) rfl (CallsF.fn rfl (by kernel_rfl) rfl rfl) (fun hf => f21_spec s (by omega)) hf rfl ?_
        intro n14 hn2 hf
        have hn := Nat.le_trans hn hn2
        refine sq.c (v := .bool ((mayNameB s) == (mayNameB s))) rfl rfl (boolEql _ _) rfl ?_
        refine sq.c (v := .bool ((mayNameB s) == (mayNameB s))) rfl rfl rfl rfl ?_
        rcases Bool.eq_false_or_eq_true ((mayNameB s) == (mayNameB s)) with c4_4 | c4_4
        · rw [c4_4]
          refine sq.c (v := .string (s)) (wantT (g := 5) (d := 27) rfl rfl rfl) rfl rfl rfl ?_
          refine sq.t (v := .bool (mayValueB s)) (wantT (g := 5) (d := 27) rfl rfl rfl) (CallsF.fn rfl (by kernel_rfl) rfl rfl) (fun hf => f22_spec s (hld.keep hs) (by omega)) hf rfl ?_
          intro n15 hn2 hf
          have hn := Nat.le_trans hn hn2
          refine sq.c (v := .string (s)) (wantT (g := 5) (d := 27) rfl rfl rfl) rfl rfl rfl ?_
          refine sq.t (v := .bool (mayValueB s)) (wantT (g := 5) (d := 27) rfl rfl rfl) (CallsF.fn rfl (by kernel_rfl) rfl rfl) (fun hf => f23_spec s (by omega)) hf rfl ?_
          intro n16 hn2 hf
          have hn := Nat.le_trans hn hn2
          refine sq.c (v := .bool ((mayValueB s) == (mayValueB s))) (wantT (g := 5) (d := 27) rfl rfl rfl) rfl (boolEql _ _) rfl ?_
          refine sq.c (v := .bool ((mayValueB s) == (mayValueB s))) rfl rfl rfl rfl ?_
          refine sq.c (v := .bool ((mayValueB s) == (mayValueB s))) rfl rfl rfl rfl ?_
          rcases Bool.eq_false_or_eq_true ((mayValueB s) == (mayValueB s)) with c4_10 | c4_10
          · rw [c4_10]
            refine sq.c (v := .slice a_oa (la.length) cp_oa) (wantT (g := 12) (d := 34) rfl rfl rfl) rfl rfl rfl ?_
            refine sq.t (v := .bool (mayB la)) (wantT (g := 12) (d := 34) rfl rfl rfl) (CallsF.fn rfl (by kernel_rfl) rfl rfl) (fun hf => f24_spec la R_oa.is (by have := (hb_a c_a).1; omega) (fun x hx => ⟨by have := (hb_a c_a).2 x hx; omega, by have := (hb_a c_a).2 x hx; omega⟩) (hld.keep hs)) hf rfl ?_
            intro n17 hn2 hf
            have hn := Nat.le_trans hn hn2
            refine sq.c (v := .slice a1 (la.length) cp1) (wantT (g := 12) (d := 34) rfl rfl rfl) rfl rfl rfl ?_
            refine sq.t (v := .bool (mayB la)) (wantT (g := 12) (d := 34) rfl rfl rfl) (CallsF.fn rfl (by kernel_rfl) rfl rfl) (fun hf => f25_spec la (hla.keep hs) (by have := (hb_a c_a).1; omega) (fun x hx => ⟨by have := (hb_a c_a).2 x hx; omega, by have := (hb_a c_a).2 x hx; omega⟩)) hf rfl ?_
            intro n18 hn2 hf
            have hn := Nat.le_trans hn hn2
            refine sq.c (v := .bool ((mayB la) == (mayB la))) (wantT (g := 12) (d := 34) rfl rfl rfl) rfl (boolEql _ _) rfl ?_
            refine sq.c (v := .bool ((mayB la) == (mayB la))) rfl rfl rfl rfl ?_
            refine sq.c (v := .bool ((mayB la) == (mayB la))) rfl rfl rfl rfl ?_
            rcases Bool.eq_false_or_eq_true ((mayB la) == (mayB la)) with c4_17 | c4_17
            · rw [c4_17]
              refine sq.c (v := .slice a_oa (la.length) cp_oa) (wantT (g := 19) (d := 41) rfl rfl rfl) rfl rfl rfl ?_
              refine sq.c (v := .slice a2 (lb.length) cp2) (wantT (g := 19) (d := 41) rfl rfl rfl) rfl rfl rfl ?_
              refine sq.t (v := .bool (decide (la = lb))) (wantT (g := 19) (d := 41) rfl rfl rfl) (CallsF.fn rfl (by kernel_rfl) rfl rfl) (fun hf => f26_spec la lb R_oa.is (hlb.keep hs) (by have := (hb_a c_a).1; omega)) hf rfl ?_
              intro n19 hn2 hf
              have hn := Nat.le_trans hn hn2
              refine sq.c (v := .slice a1 (la.length) cp1) (wantT (g := 19) (d := 41) rfl rfl rfl) rfl rfl rfl ?_
              refine sq.c (v := .slice a2 (lb.length) cp2) (wantT (g := 19) (d := 41) rfl rfl rfl) rfl rfl rfl ?_
              refine sq.t (v := .bool (decide (la = lb))) (wantT (g := 19) (d := 41) rfl rfl rfl) (CallsF.fn rfl (by kernel_rfl) rfl rfl) (fun hf => f27_spec la lb (hla.keep hs) (hlb.keep hs) (by have := (hb_a c_a).1; omega)) hf rfl ?_
              intro n20 hn2 hf
              have hn := Nat.le_trans hn hn2
              refine sq.c (v := .bool ((decide (la = lb)) == (decide (la = lb)))) (wantT (g := 19) (d := 41) rfl rfl rfl) rfl (boolEql _ _) rfl ?_
              refine sq.c (v := .bool ((decide (la = lb)) == (decide (la = lb)))) rfl rfl rfl rfl ?_
              refine sq.c (v := .bool ((decide (la = lb)) == (decide (la = lb)))) rfl rfl rfl rfl ?_
              rcases Bool.eq_false_or_eq_true ((decide (la = lb)) == (decide (la = lb))) with c4_26 | c4_26
              · rw [c4_26]
                refine sq.c (v := .slice a_oa (la.length) cp_oa) (wantT (g := 28) (d := 50) rfl rfl rfl) rfl rfl rfl ?_
                refine sq.c (v := .slice a1 (la.length) cp1) (wantT (g := 28) (d := 50) rfl rfl rfl) rfl rfl rfl ?_
                refine sq.t (v := .bool (decide (la = la))) (wantT (g := 28) (d := 50) rfl rfl rfl) (CallsF.fn rfl (by kernel_rfl) rfl rfl) (fun hf => f26_spec la la R_oa.is (hla.keep hs) (by have := (hb_a c_a).1; omega)) hf rfl ?_
                intro n21 hn2 hf
                have hn := Nat.le_trans hn hn2
                refine sq.c (v := .bool (decide (la = la))) rfl rfl rfl rfl ?_
                refine sq.c (v := .bool (decide (la = la))) rfl rfl rfl rfl ?_
                rcases Bool.eq_false_or_eq_true (decide (la = la)) with c4_31 | c4_31
                · rw [c4_31]
                  refine sq.c (v := .slice a_oa (la.length) cp_oa) (wantT (g := 33) (d := 55) rfl rfl rfl) rfl rfl rfl ?_
                  refine sq.c (v := .slice a1 (la.length) cp1) (wantT (g := 33) (d := 55) rfl rfl rfl) rfl rfl rfl ?_
                  refine sq.k (wantT (g := 33) (d := 55) rfl rfl rfl) (CallsF.fn rfl (by kernel_rfl) rfl rfl) (f17_spec _ _ R_oa (hla.keep hs) (by have := (hb_a c_a).1; omega)) ?_
                  rintro _ h22 n23 rfl s24 hn2 hf
                  refine sq.w ?_
                  have hs := R_oa.fresh hs s24
                  have hn := Nat.le_trans hn hn2
                  refine sq.c (v := .bool (decide (la = la))) rfl rfl rfl rfl ?_
                  refine sq.c (v := .bool (decide (la = la))) rfl rfl rfl rfl ?_
                  rcases Bool.eq_false_or_eq_true (decide (la = la)) with c4_36 | c4_36
                  · rw [c4_36]
                    refine sq.t (v := .bool true) (wantT (g := 38) (d := 60) rfl rfl rfl) (CallsF.fn rfl (by kernel_rfl) rfl rfl) (fun hf => f13_spec (hld.keep hs)) hf rfl ?_
                    intro n25 hn2 hf
                    have hn := Nat.le_trans hn hn2
                    refine sq.c (v := .bool true) rfl rfl rfl rfl ?_
                    refine sq.c (v := .bool true) rfl rfl rfl rfl ?_
                    refine sq.e ?_
                    refine AWp.ret ?_
                    -- end 4: ¬c1_2 ¬c_a ¬c_b c4_4 c4_10 c4_17 c4_26 c4_31 c4_36
                    refine ⟨rfl, [.bool true], rfl, .bool true, rfl, hs, hn, ?_⟩
                    rfl
                  · exfalso; simp at c4_36
                · exfalso; simp at c4_31
              · exfalso; simp at c4_26
            · exfalso; simp at c4_17
          · exfalso; simp at c4_10
        · exfalso; simp at c4_4

end Go.Proofs.YtkpjfibpaojelaaGreatDoor
