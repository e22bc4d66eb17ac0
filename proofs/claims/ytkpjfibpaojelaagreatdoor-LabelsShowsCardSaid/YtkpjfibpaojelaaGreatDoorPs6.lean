/- texts of the claim, part 6: LabN LabO LabK Lab2 LabMayLaw LabT LabVar LabKd LabX1 LabX2 LabX3 LabShelf2 LabX4 LabX5 LabX6 LabX7 RuneCut. -/
import Derived.Test.YtkpjfibpaojelaaGreatDoorPs5
import Derived.Lib.MapLaws
import Derived.Shelf.Strings.OnBuilder
import Derived.Shelf.Strings.SlTrimAscii
import Derived.Shelf.Small.Utf8
import Derived.Shelf.Small.Wraps
import Derived.Shelf.Strings.Search2
import Derived.Shelf.Strings.Prefix
import Derived.Test.YtkpjfibpaojelaaGreatDoorProg
namespace Go.Proofs.YtkpjfibpaojelaaGreatDoor
open Go Go.Abs
set_option maxRecDepth 100000
set_option maxHeartbeats 4000000
theorem same_all {ls ms : List Lab} (h : ls.length = ms.length) (hy : ∀ j : Nat, j < ls.length → ls[j]? = ms[j]?) : ls = ms := by
  apply List.ext_getElem?
  intro j
  by_cases hj : j < ls.length
  · exact hy j hj
  · rw [List.getElem?_eq_none (by omega), List.getElem?_eq_none (by omega)]
theorem same_not {ls ms : List Lab} {i : Nat} {x y : Lab} (hx : ls[i]? = some x) (hy : ms[i]? = some y) (h : ¬ x = y) : ¬ ls = ms := by
  intro e
  rw [e, hy] at hx
  exact h (Option.some.inj hx).symm
theorem f24_spec {h : Heap} {n : Nat} {a : Option Addr} {cp : Nat} (ls : List Lab) (hl : IsRow encLab h (.slice a ls.length cp) ls) (hlen : ls.length < 9223372036854775808) (hsz : ∀ x ∈ ls, x.1.data.toList.length < 9223372036854775808 ∧ x.2.data.toList.length < 9223372036854775808) (hld : Laid0 h) :
    Tells Tryz.prog 24 [.slice a (ls.length) cp] h n (.bool (mayB ls)) := by
  refine Makes.tells (Makes.free fun hf => ?_)
  have hs : SubBut h h [] := .refl _ _
  have hn : n ≤ n := Nat.le_refl _
  have hf0 := hf
  refine Makes.of_bodyV (args := [.slice a (ls.length) cp]) (vs := [.slice a (ls.length) cp, undef, undef, undef, undef, undef, undef, undef, undef, undef, undef, undef, undef, undef, undef, undef, undef, undef, undef, undef, undef, undef, undef, undef, undef, undef, undef, undef, undef, undef, undef, undef, undef, undef, undef, undef, undef, undef, undef, undef, undef, undef, undef, undef, undef, undef]) Tryz.func24 rfl rfl ?_
  refine AWp.seq (AWp.rowV (l := _) pok ?_)
  refine sq.c (v := .bool false) rfl rfl rfl rfl ?_
  refine sq.e (AWp.seq (AWp.seq (AWp.rowV (l := _) pok ?_)))
  refine sq.c (v := .slice a (ls.length) cp) rfl rfl rfl rfl ?_
  refine sq.c (v := .int .i64 (ls.length)) rfl rfl (by kernel_rfl) rfl ?_
  refine sq.c (v := .int .i64 (0)) rfl rfl rfl rfl ?_
  refine sq.e (AWp.block ?_)
  refine AWp.loopV (fun d vs h2 n3 => ∃ (i : Int), d = ((ls.length : Nat) - i + 1).toNat ∧ SubBut h h2 [] ∧ n ≤ n3 ∧ Free h2 n3 ∧ (0 ≤ i) ∧ (i ≤ (ls.length : Nat)) ∧ (∀ j : Nat, (j : Int) < i → okAt ls j = true) ∧ ∃ y1 : Nat → Value, vs = [.slice a (ls.length) cp, undef, (y1 2), (y1 3), (y1 4), .slice a (ls.length) cp, .int .i64 (ls.length), .int .i64 (i), (y1 8), (y1 9), (y1 10), (y1 11), (y1 12), (y1 13), (y1 14), (y1 15), (y1 16), (y1 17), (y1 18), (y1 19), (y1 20), (y1 21), (y1 22), (y1 23), (y1 24), (y1 25), (y1 26), (y1 27), (y1 28), (y1 29), (y1 30), (y1 31), (y1 32), (y1 33), (y1 34), (y1 35), (y1 36), (y1 37), undef, undef, undef, undef, undef, undef, undef, undef]) (((ls.length : Nat) - (0 : Int) + 1).toNat) ⟨0, rfl, hs, hn, hf, (by omega), (by omega), (fun j hj => by omega), getV [undef, undef, .bool false, undef, undef, undef, undef, undef, undef, undef, undef, undef, undef, undef, undef, undef, undef, undef, undef, undef, undef, undef, undef, undef, undef, undef, undef, undef, undef, undef, undef, undef, undef, undef, undef, undef, undef, undef], rfl⟩ ?_
  rintro d vs h2 n3 ⟨i, rfl, hs, hn, hf, hi0, hi1, hyes0, y1, rfl⟩
  refine AWp.seq (AWp.rowV (l := _) pok ?_)
  refine sq.c (v := .bool (decide (i < ((ls.length : Nat) : Int)))) rfl rfl rfl rfl ?_
  refine sq.e (AWp.seq ?_)
  by_cases c2_0 : i < ((ls.length : Nat) : Int)
  · rw [decide_eq_true c2_0]
    refine AWp.condT rfl rfl ?_
    refine AWp.skip (AWp.seq (AWp.block (AWp.seq (AWp.rowV (l := _) pok ?_))))
    refine sq.c (v := .int .i64 (i)) rfl rfl rfl rfl ?_
    have i10 : (0 : Int) ≤ (i : Int) := by omega
    obtain ⟨x11, hx_x11⟩ : ∃ x, (ls)[((i : Int)).toNat]? = some x := ⟨_, List.getElem?_eq_getElem (by omega)⟩
    have g_x11 := hsz x11 (List.mem_of_getElem? hx_x11)
    obtain ⟨b4, o5, cs_b4, ow_b4, ci_b4, ie9, hb6, hc7, hr8⟩ := IsRow.at (P := Tryz.prog) (t := 22) (e := 40) (k := .i64) (by kernel_rfl) (by kernel_rfl) (hl.keep hs) i10 hx_x11
    refine sq.c (v := .pointer (some ⟨b4, o5, none⟩)) rfl rfl ie9 rfl ?_
    refine sq.c (v := .agg #[.string (x11.1), .string (x11.2)]) rfl rfl (ldR (P := Tryz.prog) (t := 40) (k := 2) (xs := [.string (x11.1), .string (x11.2)]) (by kernel_rfl) (by kernel_rfl) hr8) rfl ?_
    have e_b4_n3 : b4 ≠ n3 := hf.ne hb6
    have z_n3 : h.get n3 = none := hf0 _ hn
    refine sq.op rfl rfl (Does.alloc (cs := [.string (⟨#[]⟩), .string (⟨#[]⟩)]) hf (z := .agg #[.string (⟨#[]⟩), .string (⟨#[]⟩)]) (by kernel_rfl) rfl) ?_
    rintro _ h13 n14 ⟨rfl, hb12⟩ s15 hn2 hf
    refine sq.w ?_
    have hs := hs.trans s15
    have hn := Nat.le_trans hn hn2
    refine sq.c (v := .int .i64 (i)) rfl rfl rfl rfl ?_
    refine sq.op rfl rfl (Does.store (k := 2) (xs := [.string (x11.1), .string (x11.2)]) (cs' := [.string (x11.1), .string (x11.2)]) hf (by kernel_rfl) rfl rfl rfl hb12 rfl rfl (Nat.le_of_ble_eq_true rfl) rfl) ?_
    rintro _ h17 n18 ⟨rfl, hb16⟩ s19 hn2 hf
    refine sq.w0 ?_
    have hs := hs.fresh z_n3 s19
    have hn := Nat.le_trans hn hn2
    refine sq.e (AWp.seq ?_)
    refine AWp.anyV pok [] [0, 1, 2, 3, 4, 5, 6, 7, 8, 9, 10, 11, 12, 13, 14, 15, 16, 17, 18, 19, 20, 21, 22, 23, 24] (by kernel_rfl) (by kernel_rfl) rfl (fun x fr fr' h n hd _ q => ⟨hd ▸ q.1, q.2⟩) ?_
    refine dq.c (v := .pointer (some ⟨n3, 0, none⟩)) rfl (by kernel_rfl) rfl rfl (by kernel_rfl) rfl ?_
    refine dq.g (v := .string (x11.1)) rfl (by kernel_rfl) rfl rfl (ld1 (P := Tryz.prog) (t := 9) (p := 0) (v := .string (x11.1)) (by kernel_rfl) (by kernel_rfl) hb16 rfl) rfl ?_
    refine dq.t (v := .bool (mayNameB (x11.1))) rfl (by kernel_rfl) rfl (CallsF.fn rfl (by kernel_rfl) rfl rfl) (fun hf => f20_spec _ g_x11.1) hf rfl ?_
    intro n20 hn2 hf
    have hn := Nat.le_trans hn hn2
    rcases Bool.eq_false_or_eq_true (mayNameB (x11.1)) with c4_2 | c4_2
    · rw [c4_2]
      refine dq.c (v := .bool false) rfl (by kernel_rfl) rfl rfl rfl rfl ?_
      refine dq.c (v := .bool false) rfl (by kernel_rfl) rfl rfl rfl rfl ?_
      refine dq.c (v := .pointer (some ⟨n3, 1, none⟩)) rfl (by kernel_rfl) (wantT (g := 4) (d := 16) rfl rfl rfl) rfl (by kernel_rfl) rfl ?_
      refine dq.g (v := .string (x11.2)) rfl (by kernel_rfl) (wantT (g := 4) (d := 16) rfl rfl rfl) rfl (ld1 (P := Tryz.prog) (t := 9) (p := 1) (v := .string (x11.2)) (by kernel_rfl) (by kernel_rfl) hb16 rfl) rfl ?_
      refine dq.t (v := .bool (mayValueB (x11.2))) rfl (by kernel_rfl) (wantT (g := 4) (d := 16) rfl rfl rfl) (CallsF.fn rfl (by kernel_rfl) rfl rfl) (fun hf => f22_spec _ (hld.keep hs) g_x11.2) hf rfl ?_
      intro n21 hn2 hf
      have hn := Nat.le_trans hn hn2
      rcases Bool.eq_false_or_eq_true (mayValueB (x11.2)) with c4_7 | c4_7
      · rw [c4_7]
        refine dq.c (v := .bool false) rfl (by kernel_rfl) (wantT (g := 4) (d := 16) rfl rfl rfl) rfl rfl rfl ?_
        refine dq.c (v := .bool false) rfl (by kernel_rfl) rfl rfl rfl rfl ?_
        refine dq.c (v := .bool false) rfl (by kernel_rfl) rfl rfl rfl rfl ?_
        refine dq.c (v := .int .i64 (i)) rfl (by kernel_rfl) (wantT (g := 10) (d := 22) rfl rfl rfl) rfl rfl rfl ?_
        refine dq.c (v := .bool (decide ((0 : Int) < i))) rfl (by kernel_rfl) (wantT (g := 10) (d := 22) rfl rfl rfl) rfl rfl rfl ?_
        refine dq.c (v := .bool (decide ((0 : Int) < i))) rfl (by kernel_rfl) (wantT (g := 10) (d := 22) rfl rfl rfl) rfl rfl rfl ?_
        by_cases c4_12 : (0 : Int) < i
        · rw [decide_eq_true c4_12]
          refine dq.c (v := .pointer (some ⟨n3, 0, none⟩)) rfl (by kernel_rfl) (wantT (g := 13) (d := 25) rfl rfl rfl) rfl (by kernel_rfl) rfl ?_
          refine dq.g (v := .string (x11.1)) rfl (by kernel_rfl) (wantT (g := 13) (d := 25) rfl rfl rfl) rfl (ld1 (P := Tryz.prog) (t := 9) (p := 0) (v := .string (x11.1)) (by kernel_rfl) (by kernel_rfl) hb16 rfl) rfl ?_
          refine dq.c (v := .slice a (ls.length) cp) rfl (by kernel_rfl) (wantT (g := 13) (d := 25) rfl rfl rfl) rfl rfl rfl ?_
          refine dq.c (v := .int .i64 (i)) rfl (by kernel_rfl) (wantT (g := 13) (d := 25) rfl rfl rfl) rfl rfl rfl ?_
          refine dq.c (v := .int .i64 (i - 1)) rfl (by kernel_rfl) (wantT (g := 13) (d := 25) rfl rfl rfl) rfl (okI (wrap_i64 (by omega) (by omega))) rfl ?_
          have i28 : (0 : Int) ≤ (i - 1 : Int) := by omega
          obtain ⟨x29, hx_x29⟩ : ∃ x, (ls)[((i - 1 : Int)).toNat]? = some x := ⟨_, List.getElem?_eq_getElem (by omega)⟩
          have g_x29 := hsz x29 (List.mem_of_getElem? hx_x29)
          obtain ⟨b22, o23, cs_b22, ow_b22, ci_b22, ie27, hb24, hc25, hr26⟩ := IsRow.at (P := Tryz.prog) (t := 22) (e := 40) (k := .i64) (by kernel_rfl) (by kernel_rfl) (hl.keep hs) i28 hx_x29
          refine dq.c (v := .pointer (some ⟨b22, o23, none⟩)) rfl (by kernel_rfl) (wantT (g := 13) (d := 25) rfl rfl rfl) rfl ie27 rfl ?_
          refine dq.c (v := .pointer (some ⟨b22, o23, none⟩)) rfl (by kernel_rfl) (wantT (g := 13) (d := 25) rfl rfl rfl) rfl (by kernel_rfl) rfl ?_
          refine dq.g (v := .string (x29.1)) rfl (by kernel_rfl) (wantT (g := 13) (d := 25) rfl rfl rfl) rfl (ld1 (P := Tryz.prog) (t := 9) (p := o23 + 0) (v := .string (x29.1)) (by kernel_rfl) (by kernel_rfl) hb24 (hc25 0 _ rfl)) rfl ?_
          refine dq.c (v := .bool ((lessS x11.1 x29.1 || eqS x11.1 x29.1))) rfl (by kernel_rfl) (wantT (g := 13) (d := 25) rfl rfl rfl) rfl rfl rfl ?_
          refine dq.c (v := .bool ((lessS x11.1 x29.1 || eqS x11.1 x29.1))) rfl (by kernel_rfl) (wantT (g := 10) (d := 22) rfl rfl rfl) rfl rfl rfl ?_
          refine dq.c (v := .bool ((lessS x11.1 x29.1 || eqS x11.1 x29.1))) rfl (by kernel_rfl) rfl rfl rfl rfl ?_
          refine dq.e ?_
          rcases Bool.eq_false_or_eq_true ((lessS x11.1 x29.1 || eqS x11.1 x29.1)) with c4_22 | c4_22
          · rw [c4_22]
            refine AWp.condT rfl rfl ?_
            refine AWp.seq (AWp.rowV (l := _) pok ?_)
            refine sq.c (v := .bool false) rfl rfl rfl rfl ?_
            refine sq.e ?_
            refine AWp.ret ?_
            refine ⟨rfl, [.bool false], rfl, .bool false, rfl, hs, hn, ?_⟩
            show Value.bool false = .bool (mayB ls)
            rw [may_row hx_x11 (by omega) (by rw [show i.toNat - 1 = (i - 1).toNat by omega]; exact hx_x29) c4_22]
          · rw [c4_22]
            refine AWp.condF rfl rfl ?_
            refine AWp.skip (AWp.rowV (l := _) pok ?_)
            refine sq.c (v := .int .i64 (i + 1)) rfl rfl (okI (wrap_i64 (by omega) (by omega))) rfl ?_
            refine sq.c (v := .int .i64 (i + 1)) rfl rfl rfl rfl ?_
            refine sq.e ?_
            have ok1 : okAt ls i.toNat = true := okAt_yes hx_x11 c4_2 c4_7 (.inr ⟨_, by rw [show i.toNat - 1 = (i - 1).toNat by omega]; exact hx_x29, c4_22⟩)
            have hy : ∀ j : Nat, (j : Int) < i + 1 → okAt ls j = true := by
              intro j hj
              by_cases e : j = i.toNat
              · rw [e]; exact ok1
              · exact hyes0 j (by omega)
            refine ⟨_, _, rfl, by omega, i + 1, rfl, hs, hn, hf, (by omega), (by omega), (hy), getV [undef, undef, (y1 2), .int .i64 (i), .pointer (some ⟨n3, 0, none⟩), undef, undef, undef, .bool true, .int .i64 (i), .pointer (some ⟨b4, o5, none⟩), .agg #[.string (x11.1), .string (x11.2)], .pointer (some ⟨n3, 0, none⟩), .string (x11.1), .bool true, .bool false, .bool false, .pointer (some ⟨n3, 1, none⟩), .string (x11.2), .bool true, .bool false, .bool false, .bool false, .int .i64 (i), .bool true, .bool true, .pointer (some ⟨n3, 0, none⟩), .string (x11.1), .slice a (ls.length) cp, .int .i64 (i), .int .i64 (i - 1), .pointer (some ⟨b22, o23, none⟩), .pointer (some ⟨b22, o23, none⟩), .string (x29.1), .bool false, .bool false, .bool false, .int .i64 (i + 1)], rfl⟩
        · rw [decide_eq_false c4_12]
          refine dq.s rfl (wantF (g := 13) (d := 25) rfl rfl rfl) rfl ?_
          refine dq.s rfl (wantF (g := 13) (d := 25) rfl rfl rfl) rfl ?_
          refine dq.s rfl (wantF (g := 13) (d := 25) rfl rfl rfl) rfl ?_
          refine dq.s rfl (wantF (g := 13) (d := 25) rfl rfl rfl) rfl ?_
          refine dq.s rfl (wantF (g := 13) (d := 25) rfl rfl rfl) rfl ?_
          refine dq.s rfl (wantF (g := 13) (d := 25) rfl rfl rfl) rfl ?_
          refine dq.s rfl (wantF (g := 13) (d := 25) rfl rfl rfl) rfl ?_
          refine dq.s rfl (wantF (g := 13) (d := 25) rfl rfl rfl) rfl ?_
          refine dq.s rfl (wantF (g := 13) (d := 25) rfl rfl rfl) rfl ?_
          refine dq.c (v := .bool false) rfl (by kernel_rfl) (wantT (g := 10) (d := 22) rfl rfl rfl) rfl rfl rfl ?_
          refine dq.c (v := .bool false) rfl (by kernel_rfl) rfl rfl rfl rfl ?_
          refine dq.e ?_
          refine AWp.condF rfl rfl ?_
          refine AWp.skip (AWp.rowV (l := _) pok ?_)
          refine sq.c (v := .int .i64 (i + 1)) rfl rfl (okI (wrap_i64 (by omega) (by omega))) rfl ?_
          refine sq.c (v := .int .i64 (i + 1)) rfl rfl rfl rfl ?_
          refine sq.e ?_
          have ok1 : okAt ls i.toNat = true := okAt_yes hx_x11 c4_2 c4_7 (.inl (by omega))
          have hy : ∀ j : Nat, (j : Int) < i + 1 → okAt ls j = true := by
            intro j hj
            by_cases e : j = i.toNat
            · rw [e]; exact ok1
            · exact hyes0 j (by omega)
          refine ⟨_, _, rfl, by omega, i + 1, rfl, hs, hn, hf, (by omega), (by omega), (hy), getV [undef, undef, (y1 2), .int .i64 (i), .pointer (some ⟨n3, 0, none⟩), undef, undef, undef, .bool true, .int .i64 (i), .pointer (some ⟨b4, o5, none⟩), .agg #[.string (x11.1), .string (x11.2)], .pointer (some ⟨n3, 0, none⟩), .string (x11.1), .bool true, .bool false, .bool false, .pointer (some ⟨n3, 1, none⟩), .string (x11.2), .bool true, .bool false, .bool false, .bool false, .int .i64 (i), .bool false, .bool false, undef, undef, undef, undef, undef, undef, undef, undef, undef, .bool false, .bool false, .int .i64 (i + 1)], rfl⟩
      · rw [c4_7]
        refine dq.c (v := .bool true) rfl (by kernel_rfl) rfl rfl rfl rfl ?_
        refine dq.c (v := .bool true) rfl (by kernel_rfl) rfl rfl rfl rfl ?_
        refine dq.c (v := .bool true) rfl (by kernel_rfl) rfl rfl rfl rfl ?_
        refine dq.s rfl (wantF (g := 10) (d := 22) rfl rfl rfl) rfl ?_
        refine dq.s rfl (wantF (g := 10) (d := 22) rfl rfl rfl) rfl ?_
        refine dq.s rfl (wantF (g := 10) (d := 22) rfl rfl rfl) rfl ?_
        refine dq.s rfl (wantU (g := 13) (d := 25) rfl rfl rfl) rfl ?_
        refine dq.s rfl (wantU (g := 13) (d := 25) rfl rfl rfl) rfl ?_
        refine dq.s rfl (wantU (g := 13) (d := 25) rfl rfl rfl) rfl ?_
        refine dq.s rfl (wantU (g := 13) (d := 25) rfl rfl rfl) rfl ?_
        refine dq.s rfl (wantU (g := 13) (d := 25) rfl rfl rfl) rfl ?_
        refine dq.s rfl (wantU (g := 13) (d := 25) rfl rfl rfl) rfl ?_
        refine dq.s rfl (wantU (g := 13) (d := 25) rfl rfl rfl) rfl ?_
        refine dq.s rfl (wantU (g := 13) (d := 25) rfl rfl rfl) rfl ?_
        refine dq.s rfl (wantU (g := 13) (d := 25) rfl rfl rfl) rfl ?_
        refine dq.s rfl (wantF (g := 10) (d := 22) rfl rfl rfl) rfl ?_
        refine dq.c (v := .bool true) rfl (by kernel_rfl) rfl rfl rfl rfl ?_
        refine dq.e ?_
        refine AWp.condT rfl rfl ?_
        refine AWp.seq (AWp.rowV (l := _) pok ?_)
        refine sq.c (v := .bool false) rfl rfl rfl rfl ?_
        refine sq.e ?_
        refine AWp.ret ?_
        refine ⟨rfl, [.bool false], rfl, .bool false, rfl, hs, hn, ?_⟩
        show Value.bool false = .bool (mayB ls)
        rw [may_bad hx_x11 (.inr c4_7)]
    · rw [c4_2]
      refine dq.c (v := .bool true) rfl (by kernel_rfl) rfl rfl rfl rfl ?_
      refine dq.c (v := .bool true) rfl (by kernel_rfl) rfl rfl rfl rfl ?_
      refine dq.s rfl (wantF (g := 4) (d := 16) rfl rfl rfl) rfl ?_
      refine dq.s rfl (wantF (g := 4) (d := 16) rfl rfl rfl) rfl ?_
      refine dq.s rfl (wantF (g := 4) (d := 16) rfl rfl rfl) rfl ?_
      refine dq.s rfl (wantF (g := 4) (d := 16) rfl rfl rfl) rfl ?_
      refine dq.c (v := .bool true) rfl (by kernel_rfl) rfl rfl rfl rfl ?_
      refine dq.c (v := .bool true) rfl (by kernel_rfl) rfl rfl rfl rfl ?_
      refine dq.s rfl (wantF (g := 10) (d := 22) rfl rfl rfl) rfl ?_
      refine dq.s rfl (wantF (g := 10) (d := 22) rfl rfl rfl) rfl ?_
      refine dq.s rfl (wantF (g := 10) (d := 22) rfl rfl rfl) rfl ?_
      refine dq.s rfl (wantU (g := 13) (d := 25) rfl rfl rfl) rfl ?_
      refine dq.s rfl (wantU (g := 13) (d := 25) rfl rfl rfl) rfl ?_
      refine dq.s rfl (wantU (g := 13) (d := 25) rfl rfl rfl) rfl ?_
      refine dq.s rfl (wantU (g := 13) (d := 25) rfl rfl rfl) rfl ?_
      refine dq.s rfl (wantU (g := 13) (d := 25) rfl rfl rfl) rfl ?_
      refine dq.s rfl (wantU (g := 13) (d := 25) rfl rfl rfl) rfl ?_
      refine dq.s rfl (wantU (g := 13) (d := 25) rfl rfl rfl) rfl ?_
      refine dq.s rfl (wantU (g := 13) (d := 25) rfl rfl rfl) rfl ?_
      refine dq.s rfl (wantU (g := 13) (d := 25) rfl rfl rfl) rfl ?_
      refine dq.s rfl (wantF (g := 10) (d := 22) rfl rfl rfl) rfl ?_
      refine dq.c (v := .bool true) rfl (by kernel_rfl) rfl rfl rfl rfl ?_
      refine dq.e ?_
      refine AWp.condT rfl rfl ?_
      refine AWp.seq (AWp.rowV (l := _) pok ?_)
      refine sq.c (v := .bool false) rfl rfl rfl rfl ?_
      refine sq.e ?_
      refine AWp.ret ?_
      refine ⟨rfl, [.bool false], rfl, .bool false, rfl, hs, hn, ?_⟩
      show Value.bool false = .bool (mayB ls)
      rw [may_bad hx_x11 (.inl c4_2)]
  · rw [decide_eq_false c2_0]
    refine AWp.condF rfl rfl ?_
    refine AWp.exit ?_
    refine AWp.seq (AWp.rowV (l := _) pok ?_)
    refine sq.c (v := .slice a (ls.length) cp) rfl rfl rfl rfl ?_
    refine sq.c (v := .int .i64 (ls.length)) rfl rfl (by kernel_rfl) rfl ?_
    refine sq.c (v := .bool (decide ((0 : Int) < ((ls.length : Nat) : Int)))) rfl rfl rfl rfl ?_
    refine sq.c (v := .bool (decide ((0 : Int) < ((ls.length : Nat) : Int)))) rfl rfl rfl rfl ?_
    by_cases c7_2 : (0 : Int) < ((ls.length : Nat) : Int)
    · rw [decide_eq_true c7_2]
      refine sq.c (v := .slice a (ls.length) cp) (wantT (g := 3) (d := 41) rfl rfl rfl) rfl rfl rfl ?_
      refine sq.c (v := .int .i64 (ls.length)) (wantT (g := 3) (d := 41) rfl rfl rfl) rfl (by kernel_rfl) rfl ?_
      refine sq.c (v := .bool (decide (((ls.length : Nat) : Int) ≤ (16 : Int)))) (wantT (g := 3) (d := 41) rfl rfl rfl) rfl rfl rfl ?_
      refine sq.c (v := .bool (decide (((ls.length : Nat) : Int) ≤ (16 : Int)))) rfl rfl rfl rfl ?_
      refine sq.c (v := .bool (decide (((ls.length : Nat) : Int) ≤ (16 : Int)))) rfl rfl rfl rfl ?_
      refine sq.e ?_
      refine AWp.ret ?_
      refine ⟨rfl, [.bool (decide (((ls.length : Nat) : Int) ≤ (16 : Int)))], rfl, .bool (decide (((ls.length : Nat) : Int) ≤ (16 : Int))), rfl, hs, hn, ?_⟩
      have hyes : ∀ j : Nat, j < ls.length → okAt ls j = true := fun j hj => hyes0 j (by omega)
      show Value.bool (decide (((ls.length : Nat) : Int) ≤ (16 : Int))) = .bool (mayB ls)
      rw [may_all hyes]; exact congrArg Value.bool (decide_eq_decide.2 (by omega))
    · rw [decide_eq_false c7_2]
      refine sq.s (wantF (g := 3) (d := 41) rfl rfl rfl) rfl ?_
      refine sq.s (wantF (g := 3) (d := 41) rfl rfl rfl) rfl ?_
      refine sq.s (wantF (g := 3) (d := 41) rfl rfl rfl) rfl ?_
      refine sq.c (v := .bool false) rfl rfl rfl rfl ?_
      refine sq.c (v := .bool false) rfl rfl rfl rfl ?_
      refine sq.e ?_
      refine AWp.ret ?_
      refine ⟨rfl, [.bool false], rfl, .bool false, rfl, hs, hn, ?_⟩
      have hyes : ∀ j : Nat, j < ls.length → okAt ls j = true := fun j hj => hyes0 j (by omega)
      show Value.bool false = .bool (mayB ls)
      rw [may_len (by omega)]
theorem f25_spec {h : Heap} {n : Nat} {a : Option Addr} {cp : Nat} (ls : List Lab) (hl : IsRow encLab h (.slice a ls.length cp) ls) (hlen : ls.length < 9223372036854775808) (hsz : ∀ x ∈ ls, x.1.data.toList.length < 9223372036854775808 ∧ x.2.data.toList.length < 9223372036854775808) :
    Tells Tryz.prog 25 [.slice a (ls.length) cp] h n (.bool (mayB ls)) := by
  refine Makes.tells (Makes.free fun hf => ?_)
  have hs : SubBut h h [] := .refl _ _
  have hn : n ≤ n := Nat.le_refl _
  have hf0 := hf
  refine Makes.of_bodyV (args := [.slice a (ls.length) cp]) (vs := [.slice a (ls.length) cp, undef, undef, undef, undef, undef, undef, undef, undef, undef, undef, undef, undef, undef, undef, undef, undef, undef, undef, undef, undef, undef, undef, undef, undef, undef, undef, undef, undef, undef, undef, undef, undef, undef, undef, undef, undef, undef, undef, undef, undef, undef, undef, undef, undef, undef, undef, undef, undef, undef, undef, undef]) Tryz.func25 rfl rfl ?_
  refine AWp.seq (AWp.rowV (l := _) pok ?_)
  refine sq.c (v := .bool false) rfl rfl rfl rfl ?_
  refine sq.e ?_
  refine AWp.seqJ (fun vs h' n2 => h = h' ∧ n ≤ n2 ∧ Free h n2 ∧ (1 ≤ ls.length ∧ ls.length ≤ 16) ∧ ∃ y1 : Nat → Value, vs = [.slice a (ls.length) cp, undef, (y1 2), undef, (y1 4), (y1 5), (y1 6), (y1 7), (y1 8), (y1 9), (y1 10), (y1 11), undef, undef, undef, undef, undef, undef, undef, undef, undef, undef, undef, undef, undef, undef, undef, undef, undef, undef, undef, undef, undef, undef, undef, undef, undef, undef, undef, undef, undef, undef, undef, undef, undef, undef, undef, undef, undef, undef, undef, undef]) ?_ ?_
  · skip
    refine AWp.seq (AWp.rowV (l := _) pok ?_)
    refine sq.c (v := .slice a (ls.length) cp) rfl rfl rfl rfl ?_
    refine sq.c (v := .int .i64 (ls.length)) rfl rfl (by kernel_rfl) rfl ?_
    refine sq.c (v := .bool (decide (((ls.length : Nat) : Int) < (1 : Int)))) rfl rfl rfl rfl ?_
    refine sq.c (v := .bool (decide (((ls.length : Nat) : Int) < (1 : Int)))) rfl rfl rfl rfl ?_
    by_cases c1_2 : ((ls.length : Nat) : Int) < (1 : Int)
    · rw [decide_eq_true c1_2]
      refine sq.s (wantF (g := 3) (d := 7) rfl rfl rfl) rfl ?_
      refine sq.s (wantF (g := 3) (d := 7) rfl rfl rfl) rfl ?_
      refine sq.s (wantF (g := 3) (d := 7) rfl rfl rfl) rfl ?_
      refine sq.c (v := .bool true) rfl rfl rfl rfl ?_
      refine sq.e ?_
      refine AWp.condT rfl rfl ?_
      refine AWp.seq (AWp.rowV (l := _) pok ?_)
      refine sq.c (v := .bool false) rfl rfl rfl rfl ?_
      refine sq.e ?_
      refine AWp.ret ?_
      refine ⟨rfl, [.bool false], rfl, .bool false, rfl, hs, hn, ?_⟩
      show Value.bool false = .bool (mayB ls)
      rw [may_len (by omega)]
    · rw [decide_eq_false c1_2]
      refine sq.c (v := .slice a (ls.length) cp) (wantT (g := 3) (d := 7) rfl rfl rfl) rfl rfl rfl ?_
      refine sq.c (v := .int .i64 (ls.length)) (wantT (g := 3) (d := 7) rfl rfl rfl) rfl (by kernel_rfl) rfl ?_
      refine sq.c (v := .bool (decide ((16 : Int) < ((ls.length : Nat) : Int)))) (wantT (g := 3) (d := 7) rfl rfl rfl) rfl rfl rfl ?_
      refine sq.c (v := .bool (decide ((16 : Int) < ((ls.length : Nat) : Int)))) rfl rfl rfl rfl ?_
      refine sq.e ?_
      by_cases c1_6 : (16 : Int) < ((ls.length : Nat) : Int)
      · rw [decide_eq_true c1_6]
        refine AWp.condT rfl rfl ?_
        refine AWp.seq (AWp.rowV (l := _) pok ?_)
        refine sq.c (v := .bool false) rfl rfl rfl rfl ?_
        refine sq.e ?_
        refine AWp.ret ?_
        refine ⟨rfl, [.bool false], rfl, .bool false, rfl, hs, hn, ?_⟩
        show Value.bool false = .bool (mayB ls)
        rw [may_len (by omega)]
      · rw [decide_eq_false c1_6]
        refine AWp.condF rfl rfl ?_
        refine AWp.skip ?_
        refine ⟨_, rfl, rfl, hn, hf, (by omega), getV [undef, undef, .bool false, undef, .slice a (ls.length) cp, .int .i64 (ls.length), .bool false, .bool false, .slice a (ls.length) cp, .int .i64 (ls.length), .bool false, .bool false], rfl⟩
  · skip
    rintro vs h' n2 ⟨rfl, hn, hf, hmin, y1, rfl⟩
    refine AWp.seq (AWp.seq (AWp.rowV (l := _) pok ?_))
    refine sq.c (v := .int .i64 (0)) rfl rfl rfl rfl ?_
    refine sq.e (AWp.block ?_)
    refine AWp.loopV (fun d vs h' n4 => ∃ (i : Int), d = ((ls.length : Nat) - i + 1).toNat ∧ h = h' ∧ n ≤ n4 ∧ Free h n4 ∧ (0 ≤ i) ∧ (i ≤ (ls.length : Nat)) ∧ (∀ j : Nat, (j : Int) < i → okAt ls j = true) ∧ ∃ y3 : Nat → Value, vs = [.slice a (ls.length) cp, undef, (y3 2), .int .i64 (i), (y1 4), (y1 5), (y1 6), (y1 7), (y1 8), (y1 9), (y1 10), (y1 11), (y3 12), (y3 13), (y3 14), (y3 15), (y3 16), (y3 17), (y3 18), (y3 19), (y3 20), (y3 21), (y3 22), (y3 23), (y3 24), (y3 25), (y3 26), (y3 27), (y3 28), (y3 29), (y3 30), (y3 31), (y3 32), (y3 33), (y3 34), (y3 35), (y3 36), (y3 37), (y3 38), (y3 39), (y3 40), (y3 41), (y3 42), (y3 43), (y3 44), (y3 45), (y3 46), (y3 47), (y3 48), (y3 49), (y3 50), (y3 51)]) (((ls.length : Nat) - (0 : Int) + 1).toNat) ⟨0, rfl, rfl, hn, hf, (by omega), (by omega), (fun j hj => by omega), getV [undef, undef, (y1 2), undef, undef, undef, undef, undef, undef, undef, undef, undef, undef, undef, undef, undef, undef, undef, undef, undef, undef, undef, undef, undef, undef, undef, undef, undef, undef, undef, undef, undef, undef, undef, undef, undef, undef, undef, undef, undef, undef, undef, undef, undef, undef, undef, undef, undef, undef, undef, undef, undef], rfl⟩ ?_
    rintro d vs h' n4 ⟨i, rfl, rfl, hn, hf, hi0, hi1, hyes0, y3, rfl⟩
    refine AWp.seq (AWp.seq (AWp.rowV (l := _) pok ?_))
    refine sq.c (v := .int .i64 (i)) rfl rfl rfl rfl ?_
    refine sq.c (v := .slice a (ls.length) cp) rfl rfl rfl rfl ?_
    refine sq.c (v := .int .i64 (ls.length)) rfl rfl (by kernel_rfl) rfl ?_
    refine sq.c (v := .bool (decide (i < ((ls.length : Nat) : Int)))) rfl rfl rfl rfl ?_
    refine sq.e ?_
    by_cases c4_3 : i < ((ls.length : Nat) : Int)
    · rw [decide_eq_true c4_3]
      refine AWp.condT rfl rfl ?_
      refine AWp.skip (AWp.seq (AWp.block (AWp.seq ?_)))
      refine AWp.anyV pok [] [0, 1, 2, 3, 4, 5, 6, 7, 8, 9, 10, 11, 12, 13, 14, 15, 16, 17, 18, 19, 20, 21, 22, 23, 24, 25, 26, 27, 28, 29, 30, 31, 32, 33] (by kernel_rfl) (by kernel_rfl) rfl (fun x fr fr' h n hd _ q => ⟨hd ▸ q.1, q.2⟩) ?_
      refine dq.c (v := .slice a (ls.length) cp) rfl (by kernel_rfl) rfl rfl rfl rfl ?_
      refine dq.c (v := .int .i64 (i)) rfl (by kernel_rfl) rfl rfl rfl rfl ?_
      have i11 : (0 : Int) ≤ (i : Int) := by omega
      obtain ⟨x12, hx_x12⟩ : ∃ x, (ls)[((i : Int)).toNat]? = some x := ⟨_, List.getElem?_eq_getElem (by omega)⟩
      have g_x12 := hsz x12 (List.mem_of_getElem? hx_x12)
      obtain ⟨b5, o6, cs_b5, ow_b5, ci_b5, ie10, hb7, hc8, hr9⟩ := IsRow.at (P := Tryz.prog) (t := 22) (e := 40) (k := .i64) (by kernel_rfl) (by kernel_rfl) (hl.keep hs) i11 hx_x12
      refine dq.c (v := .pointer (some ⟨b5, o6, none⟩)) rfl (by kernel_rfl) rfl rfl ie10 rfl ?_
      refine dq.c (v := .pointer (some ⟨b5, o6, none⟩)) rfl (by kernel_rfl) rfl rfl (by kernel_rfl) rfl ?_
      refine dq.g (v := .string (x12.1)) rfl (by kernel_rfl) rfl rfl (ld1 (P := Tryz.prog) (t := 9) (p := o6 + 0) (v := .string (x12.1)) (by kernel_rfl) (by kernel_rfl) hb7 (hc8 0 _ rfl)) rfl ?_
      refine dq.t (v := .bool (mayNameB (x12.1))) rfl (by kernel_rfl) rfl (CallsF.fn rfl (by kernel_rfl) rfl rfl) (fun hf => f21_spec _ g_x12.1) hf rfl ?_
      intro n13 hn2 hf
      have hn := Nat.le_trans hn hn2
      rcases Bool.eq_false_or_eq_true (mayNameB (x12.1)) with c6_5 | c6_5
      · rw [c6_5]
        refine dq.c (v := .bool false) rfl (by kernel_rfl) rfl rfl rfl rfl ?_
        refine dq.c (v := .bool false) rfl (by kernel_rfl) rfl rfl rfl rfl ?_
        refine dq.c (v := .slice a (ls.length) cp) rfl (by kernel_rfl) (wantT (g := 7) (d := 25) rfl rfl rfl) rfl rfl rfl ?_
        refine dq.c (v := .int .i64 (i)) rfl (by kernel_rfl) (wantT (g := 7) (d := 25) rfl rfl rfl) rfl rfl rfl ?_
        have i20 : (0 : Int) ≤ (i : Int) := by omega
        obtain ⟨b14, o15, cs_b14, ow_b14, ci_b14, ie19, hb16, hc17, hr18⟩ := IsRow.at (P := Tryz.prog) (t := 22) (e := 40) (k := .i64) (by kernel_rfl) (by kernel_rfl) (hl.keep hs) i20 hx_x12
        refine dq.c (v := .pointer (some ⟨b14, o15, none⟩)) rfl (by kernel_rfl) (wantT (g := 7) (d := 25) rfl rfl rfl) rfl ie19 rfl ?_
        refine dq.c (v := .pointer (some ⟨b14, o15 + 1, none⟩)) rfl (by kernel_rfl) (wantT (g := 7) (d := 25) rfl rfl rfl) rfl (by kernel_rfl) rfl ?_
        refine dq.g (v := .string (x12.2)) rfl (by kernel_rfl) (wantT (g := 7) (d := 25) rfl rfl rfl) rfl (ld1 (P := Tryz.prog) (t := 9) (p := o15 + 1) (v := .string (x12.2)) (by kernel_rfl) (by kernel_rfl) hb16 (hc17 1 _ rfl)) rfl ?_
        refine dq.t (v := .bool (mayValueB (x12.2))) rfl (by kernel_rfl) (wantT (g := 7) (d := 25) rfl rfl rfl) (CallsF.fn rfl (by kernel_rfl) rfl rfl) (fun hf => f23_spec _ g_x12.2) hf rfl ?_
        intro n21 hn2 hf
        have hn := Nat.le_trans hn hn2
        rcases Bool.eq_false_or_eq_true (mayValueB (x12.2)) with c6_13 | c6_13
        · rw [c6_13]
          refine dq.c (v := .bool false) rfl (by kernel_rfl) (wantT (g := 7) (d := 25) rfl rfl rfl) rfl rfl rfl ?_
          refine dq.c (v := .bool false) rfl (by kernel_rfl) rfl rfl rfl rfl ?_
          refine dq.c (v := .bool false) rfl (by kernel_rfl) rfl rfl rfl rfl ?_
          refine dq.c (v := .int .i64 (i)) rfl (by kernel_rfl) (wantT (g := 16) (d := 34) rfl rfl rfl) rfl rfl rfl ?_
          refine dq.c (v := .bool (decide ((0 : Int) < i))) rfl (by kernel_rfl) (wantT (g := 16) (d := 34) rfl rfl rfl) rfl rfl rfl ?_
          refine dq.c (v := .bool (decide ((0 : Int) < i))) rfl (by kernel_rfl) (wantT (g := 16) (d := 34) rfl rfl rfl) rfl rfl rfl ?_
          by_cases c6_18 : (0 : Int) < i
          · rw [decide_eq_true c6_18]
            refine dq.c (v := .slice a (ls.length) cp) rfl (by kernel_rfl) (wantT (g := 19) (d := 37) rfl rfl rfl) rfl rfl rfl ?_
            refine dq.c (v := .int .i64 (i)) rfl (by kernel_rfl) (wantT (g := 19) (d := 37) rfl rfl rfl) rfl rfl rfl ?_
            have i28 : (0 : Int) ≤ (i : Int) := by omega
            obtain ⟨b22, o23, cs_b22, ow_b22, ci_b22, ie27, hb24, hc25, hr26⟩ := IsRow.at (P := Tryz.prog) (t := 22) (e := 40) (k := .i64) (by kernel_rfl) (by kernel_rfl) (hl.keep hs) i28 hx_x12
            refine dq.c (v := .pointer (some ⟨b22, o23, none⟩)) rfl (by kernel_rfl) (wantT (g := 19) (d := 37) rfl rfl rfl) rfl ie27 rfl ?_
            refine dq.c (v := .pointer (some ⟨b22, o23, none⟩)) rfl (by kernel_rfl) (wantT (g := 19) (d := 37) rfl rfl rfl) rfl (by kernel_rfl) rfl ?_
            refine dq.g (v := .string (x12.1)) rfl (by kernel_rfl) (wantT (g := 19) (d := 37) rfl rfl rfl) rfl (ld1 (P := Tryz.prog) (t := 9) (p := o23 + 0) (v := .string (x12.1)) (by kernel_rfl) (by kernel_rfl) hb24 (hc25 0 _ rfl)) rfl ?_
            refine dq.c (v := .slice a (ls.length) cp) rfl (by kernel_rfl) (wantT (g := 19) (d := 37) rfl rfl rfl) rfl rfl rfl ?_
            refine dq.c (v := .int .i64 (i)) rfl (by kernel_rfl) (wantT (g := 19) (d := 37) rfl rfl rfl) rfl rfl rfl ?_
            refine dq.c (v := .int .i64 (i - 1)) rfl (by kernel_rfl) (wantT (g := 19) (d := 37) rfl rfl rfl) rfl (okI (wrap_i64 (by omega) (by omega))) rfl ?_
            have i35 : (0 : Int) ≤ (i - 1 : Int) := by omega
            obtain ⟨x36, hx_x36⟩ : ∃ x, (ls)[((i - 1 : Int)).toNat]? = some x := ⟨_, List.getElem?_eq_getElem (by omega)⟩
            have g_x36 := hsz x36 (List.mem_of_getElem? hx_x36)
            obtain ⟨b29, o30, cs_b29, ow_b29, ci_b29, ie34, hb31, hc32, hr33⟩ := IsRow.at (P := Tryz.prog) (t := 22) (e := 40) (k := .i64) (by kernel_rfl) (by kernel_rfl) (hl.keep hs) i35 hx_x36
            refine dq.c (v := .pointer (some ⟨b29, o30, none⟩)) rfl (by kernel_rfl) (wantT (g := 19) (d := 37) rfl rfl rfl) rfl ie34 rfl ?_
            refine dq.c (v := .pointer (some ⟨b29, o30, none⟩)) rfl (by kernel_rfl) (wantT (g := 19) (d := 37) rfl rfl rfl) rfl (by kernel_rfl) rfl ?_
            refine dq.g (v := .string (x36.1)) rfl (by kernel_rfl) (wantT (g := 19) (d := 37) rfl rfl rfl) rfl (ld1 (P := Tryz.prog) (t := 9) (p := o30 + 0) (v := .string (x36.1)) (by kernel_rfl) (by kernel_rfl) hb31 (hc32 0 _ rfl)) rfl ?_
            refine dq.c (v := .bool ((lessS x12.1 x36.1 || eqS x12.1 x36.1))) rfl (by kernel_rfl) (wantT (g := 19) (d := 37) rfl rfl rfl) rfl rfl rfl ?_
            refine dq.c (v := .bool ((lessS x12.1 x36.1 || eqS x12.1 x36.1))) rfl (by kernel_rfl) (wantT (g := 16) (d := 34) rfl rfl rfl) rfl rfl rfl ?_
            refine dq.c (v := .bool ((lessS x12.1 x36.1 || eqS x12.1 x36.1))) rfl (by kernel_rfl) rfl rfl rfl rfl ?_
            refine dq.e ?_
            rcases Bool.eq_false_or_eq_true ((lessS x12.1 x36.1 || eqS x12.1 x36.1)) with c6_31 | c6_31
            · rw [c6_31]
              refine AWp.condT rfl rfl ?_
              refine AWp.seq (AWp.rowV (l := _) pok ?_)
              refine sq.c (v := .bool false) rfl rfl rfl rfl ?_
              refine sq.e ?_
              refine AWp.ret ?_
              refine ⟨rfl, [.bool false], rfl, .bool false, rfl, hs, hn, ?_⟩
              show Value.bool false = .bool (mayB ls)
              rw [may_row hx_x12 (by omega) (by rw [show i.toNat - 1 = (i - 1).toNat by omega]; exact hx_x36) c6_31]
            · rw [c6_31]
              refine AWp.condF rfl rfl ?_
              refine AWp.skip (AWp.rowV (l := _) pok ?_)
              refine sq.c (v := .int .i64 (i)) rfl rfl rfl rfl ?_
              refine sq.c (v := .int .i64 (i + 1)) rfl rfl (okI (wrap_i64 (by omega) (by omega))) rfl ?_
              refine sq.c (v := .int .i64 (i + 1)) rfl rfl rfl rfl ?_
              refine sq.e ?_
              have ok1 : okAt ls i.toNat = true := okAt_yes hx_x12 c6_5 c6_13 (.inr ⟨_, by rw [show i.toNat - 1 = (i - 1).toNat by omega]; exact hx_x36, c6_31⟩)
              have hy : ∀ j : Nat, (j : Int) < i + 1 → okAt ls j = true := by
                intro j hj
                by_cases e : j = i.toNat
                · rw [e]; exact ok1
                · exact hyes0 j (by omega)
              refine ⟨_, _, rfl, by omega, i + 1, rfl, rfl, hn, hf, (by omega), (by omega), (hy), getV [undef, undef, (y3 2), undef, undef, undef, undef, undef, undef, undef, undef, undef, .int .i64 (i), .slice a (ls.length) cp, .int .i64 (ls.length), .bool true, .int .i64 (i), .int .i64 (i + 1), .slice a (ls.length) cp, .int .i64 (i), .pointer (some ⟨b5, o6, none⟩), .pointer (some ⟨b5, o6, none⟩), .string (x12.1), .bool true, .bool false, .bool false, .slice a (ls.length) cp, .int .i64 (i), .pointer (some ⟨b14, o15, none⟩), .pointer (some ⟨b14, o15 + 1, none⟩), .string (x12.2), .bool true, .bool false, .bool false, .bool false, .int .i64 (i), .bool true, .bool true, .slice a (ls.length) cp, .int .i64 (i), .pointer (some ⟨b22, o23, none⟩), .pointer (some ⟨b22, o23, none⟩), .string (x12.1), .slice a (ls.length) cp, .int .i64 (i), .int .i64 (i - 1), .pointer (some ⟨b29, o30, none⟩), .pointer (some ⟨b29, o30, none⟩), .string (x36.1), .bool false, .bool false, .bool false], rfl⟩
          · rw [decide_eq_false c6_18]
            refine dq.s rfl (wantF (g := 19) (d := 37) rfl rfl rfl) rfl ?_
            refine dq.s rfl (wantF (g := 19) (d := 37) rfl rfl rfl) rfl ?_
            refine dq.s rfl (wantF (g := 19) (d := 37) rfl rfl rfl) rfl ?_
            refine dq.s rfl (wantF (g := 19) (d := 37) rfl rfl rfl) rfl ?_
            refine dq.s rfl (wantF (g := 19) (d := 37) rfl rfl rfl) rfl ?_
            refine dq.s rfl (wantF (g := 19) (d := 37) rfl rfl rfl) rfl ?_
            refine dq.s rfl (wantF (g := 19) (d := 37) rfl rfl rfl) rfl ?_
            refine dq.s rfl (wantF (g := 19) (d := 37) rfl rfl rfl) rfl ?_
            refine dq.s rfl (wantF (g := 19) (d := 37) rfl rfl rfl) rfl ?_
            refine dq.s rfl (wantF (g := 19) (d := 37) rfl rfl rfl) rfl ?_
            refine dq.s rfl (wantF (g := 19) (d := 37) rfl rfl rfl) rfl ?_
            refine dq.s rfl (wantF (g := 19) (d := 37) rfl rfl rfl) rfl ?_
            refine dq.c (v := .bool false) rfl (by kernel_rfl) (wantT (g := 16) (d := 34) rfl rfl rfl) rfl rfl rfl ?_
            refine dq.c (v := .bool false) rfl (by kernel_rfl) rfl rfl rfl rfl ?_
            refine dq.e ?_
            refine AWp.condF rfl rfl ?_
            refine AWp.skip (AWp.rowV (l := _) pok ?_)
            refine sq.c (v := .int .i64 (i)) rfl rfl rfl rfl ?_
            refine sq.c (v := .int .i64 (i + 1)) rfl rfl (okI (wrap_i64 (by omega) (by omega))) rfl ?_
            refine sq.c (v := .int .i64 (i + 1)) rfl rfl rfl rfl ?_
            refine sq.e ?_
            have ok1 : okAt ls i.toNat = true := okAt_yes hx_x12 c6_5 c6_13 (.inl (by omega))
            have hy : ∀ j : Nat, (j : Int) < i + 1 → okAt ls j = true := by
              intro j hj
              by_cases e : j = i.toNat
              · rw [e]; exact ok1
              · exact hyes0 j (by omega)
            refine ⟨_, _, rfl, by omega, i + 1, rfl, rfl, hn, hf, (by omega), (by omega), (hy), getV [undef, undef, (y3 2), undef, undef, undef, undef, undef, undef, undef, undef, undef, .int .i64 (i), .slice a (ls.length) cp, .int .i64 (ls.length), .bool true, .int .i64 (i), .int .i64 (i + 1), .slice a (ls.length) cp, .int .i64 (i), .pointer (some ⟨b5, o6, none⟩), .pointer (some ⟨b5, o6, none⟩), .string (x12.1), .bool true, .bool false, .bool false, .slice a (ls.length) cp, .int .i64 (i), .pointer (some ⟨b14, o15, none⟩), .pointer (some ⟨b14, o15 + 1, none⟩), .string (x12.2), .bool true, .bool false, .bool false, .bool false, .int .i64 (i), .bool false, .bool false, undef, undef, undef, undef, undef, undef, undef, undef, undef, undef, undef, undef, .bool false, .bool false], rfl⟩
        · rw [c6_13]
          refine dq.c (v := .bool true) rfl (by kernel_rfl) rfl rfl rfl rfl ?_
          refine dq.c (v := .bool true) rfl (by kernel_rfl) rfl rfl rfl rfl ?_
          refine dq.c (v := .bool true) rfl (by kernel_rfl) rfl rfl rfl rfl ?_
          refine dq.s rfl (wantF (g := 16) (d := 34) rfl rfl rfl) rfl ?_
          refine dq.s rfl (wantF (g := 16) (d := 34) rfl rfl rfl) rfl ?_
          refine dq.s rfl (wantF (g := 16) (d := 34) rfl rfl rfl) rfl ?_
          refine dq.s rfl (wantU (g := 19) (d := 37) rfl rfl rfl) rfl ?_
          refine dq.s rfl (wantU (g := 19) (d := 37) rfl rfl rfl) rfl ?_
          refine dq.s rfl (wantU (g := 19) (d := 37) rfl rfl rfl) rfl ?_
          refine dq.s rfl (wantU (g := 19) (d := 37) rfl rfl rfl) rfl ?_
          refine dq.s rfl (wantU (g := 19) (d := 37) rfl rfl rfl) rfl ?_
          refine dq.s rfl (wantU (g := 19) (d := 37) rfl rfl rfl) rfl ?_
          refine dq.s rfl (wantU (g := 19) (d := 37) rfl rfl rfl) rfl ?_
          refine dq.s rfl (wantU (g := 19) (d := 37) rfl rfl rfl) rfl ?_
          refine dq.s rfl (wantU (g := 19) (d := 37) rfl rfl rfl) rfl ?_
          refine dq.s rfl (wantU (g := 19) (d := 37) rfl rfl rfl) rfl ?_
          refine dq.s rfl (wantU (g := 19) (d := 37) rfl rfl rfl) rfl ?_
          refine dq.s rfl (wantU (g := 19) (d := 37) rfl rfl rfl) rfl ?_
          refine dq.s rfl (wantF (g := 16) (d := 34) rfl rfl rfl) rfl ?_
          refine dq.c (v := .bool true) rfl (by kernel_rfl) rfl rfl rfl rfl ?_
          refine dq.e ?_
          refine AWp.condT rfl rfl ?_
          refine AWp.seq (AWp.rowV (l := _) pok ?_)
          refine sq.c (v := .bool false) rfl rfl rfl rfl ?_
          refine sq.e ?_
          refine AWp.ret ?_
          refine ⟨rfl, [.bool false], rfl, .bool false, rfl, hs, hn, ?_⟩
          show Value.bool false = .bool (mayB ls)
          rw [may_bad hx_x12 (.inr c6_13)]
      · rw [c6_5]
        refine dq.c (v := .bool true) rfl (by kernel_rfl) rfl rfl rfl rfl ?_
        refine dq.c (v := .bool true) rfl (by kernel_rfl) rfl rfl rfl rfl ?_
        refine dq.s rfl (wantF (g := 7) (d := 25) rfl rfl rfl) rfl ?_
        refine dq.s rfl (wantF (g := 7) (d := 25) rfl rfl rfl) rfl ?_
        refine dq.s rfl (wantF (g := 7) (d := 25) rfl rfl rfl) rfl ?_
        refine dq.s rfl (wantF (g := 7) (d := 25) rfl rfl rfl) rfl ?_
        refine dq.s rfl (wantF (g := 7) (d := 25) rfl rfl rfl) rfl ?_
        refine dq.s rfl (wantF (g := 7) (d := 25) rfl rfl rfl) rfl ?_
        refine dq.s rfl (wantF (g := 7) (d := 25) rfl rfl rfl) rfl ?_
        refine dq.c (v := .bool true) rfl (by kernel_rfl) rfl rfl rfl rfl ?_
        refine dq.c (v := .bool true) rfl (by kernel_rfl) rfl rfl rfl rfl ?_
        refine dq.s rfl (wantF (g := 16) (d := 34) rfl rfl rfl) rfl ?_
        refine dq.s rfl (wantF (g := 16) (d := 34) rfl rfl rfl) rfl ?_
        refine dq.s rfl (wantF (g := 16) (d := 34) rfl rfl rfl) rfl ?_
        refine dq.s rfl (wantU (g := 19) (d := 37) rfl rfl rfl) rfl ?_
        refine dq.s rfl (wantU (g := 19) (d := 37) rfl rfl rfl) rfl ?_
        refine dq.s rfl (wantU (g := 19) (d := 37) rfl rfl rfl) rfl ?_
        refine dq.s rfl (wantU (g := 19) (d := 37) rfl rfl rfl) rfl ?_
        refine dq.s rfl (wantU (g := 19) (d := 37) rfl rfl rfl) rfl ?_
        refine dq.s rfl (wantU (g := 19) (d := 37) rfl rfl rfl) rfl ?_
        refine dq.s rfl (wantU (g := 19) (d := 37) rfl rfl rfl) rfl ?_
        refine dq.s rfl (wantU (g := 19) (d := 37) rfl rfl rfl) rfl ?_
        refine dq.s rfl (wantU (g := 19) (d := 37) rfl rfl rfl) rfl ?_
        refine dq.s rfl (wantU (g := 19) (d := 37) rfl rfl rfl) rfl ?_
        refine dq.s rfl (wantU (g := 19) (d := 37) rfl rfl rfl) rfl ?_
        refine dq.s rfl (wantU (g := 19) (d := 37) rfl rfl rfl) rfl ?_
        refine dq.s rfl (wantF (g := 16) (d := 34) rfl rfl rfl) rfl ?_
        refine dq.c (v := .bool true) rfl (by kernel_rfl) rfl rfl rfl rfl ?_
        refine dq.e ?_
        refine AWp.condT rfl rfl ?_
        refine AWp.seq (AWp.rowV (l := _) pok ?_)
        refine sq.c (v := .bool false) rfl rfl rfl rfl ?_
        refine sq.e ?_
        refine AWp.ret ?_
        refine ⟨rfl, [.bool false], rfl, .bool false, rfl, hs, hn, ?_⟩
        show Value.bool false = .bool (mayB ls)
        rw [may_bad hx_x12 (.inl c6_5)]
    · rw [decide_eq_false c4_3]
      refine AWp.condF rfl rfl ?_
      refine AWp.exit ?_
      refine AWp.seq (AWp.rowV (l := _) pok ?_)
      refine sq.c (v := .bool true) rfl rfl rfl rfl ?_
      refine sq.e ?_
      refine AWp.ret ?_
      refine ⟨rfl, [.bool true], rfl, .bool true, rfl, hs, hn, ?_⟩
      show Value.bool true = .bool (mayB ls)
      have hyes : ∀ j : Nat, j < ls.length → okAt ls j = true := fun j hj => hyes0 j (by omega)
      rw [may_all hyes]; exact congrArg Value.bool (decide_eq_true (by omega)).symm
theorem f27_spec {h : Heap} {n : Nat} {a a2 : Option Addr} {cp cp2 : Nat} (ls ms : List Lab) (hl : IsRow encLab h (.slice a ls.length cp) ls) (hm : IsRow encLab h (.slice a2 ms.length cp2) ms) (hlen : ls.length < 9223372036854775808) :
    Tells Tryz.prog 27 [.slice a (ls.length) cp, .slice a2 (ms.length) cp2] h n (.bool (decide (ls = ms))) := by
  refine Makes.tells (Makes.free fun hf => ?_)
  have hs : SubBut h h [] := .refl _ _
  have hn : n ≤ n := Nat.le_refl _
  have hf0 := hf
  refine Makes.of_bodyV (args := [.slice a (ls.length) cp, .slice a2 (ms.length) cp2]) (vs := [.slice a (ls.length) cp, .slice a2 (ms.length) cp2, undef, undef, undef, undef, undef, undef, undef, undef, undef, undef, undef, undef, undef, undef, undef, undef, undef, undef, undef, undef, undef, undef, undef, undef, undef, undef, undef, undef, undef, undef, undef, undef, undef, undef, undef, undef, undef, undef, undef]) Tryz.func27 rfl rfl ?_
  refine AWp.seq (AWp.rowV (l := _) pok ?_)
  refine sq.c (v := .bool false) rfl rfl rfl rfl ?_
  refine sq.e (AWp.seq (AWp.seq (AWp.rowV (l := _) pok ?_)))
  refine sq.c (v := .slice a (ls.length) cp) rfl rfl rfl rfl ?_
  refine sq.c (v := .int .i64 (ls.length)) rfl rfl (by kernel_rfl) rfl ?_
  refine sq.c (v := .slice a2 (ms.length) cp2) rfl rfl rfl rfl ?_
  refine sq.c (v := .int .i64 (ms.length)) rfl rfl (by kernel_rfl) rfl ?_
  refine sq.c (v := .bool (!decide (((ls.length : Nat) : Int) = ((ms.length : Nat) : Int)))) rfl rfl rfl rfl ?_
  refine sq.e ?_
  by_cases c1_4 : ((ls.length : Nat) : Int) = ((ms.length : Nat) : Int)
  · rw [decide_eq_true c1_4]
    refine AWp.condF rfl rfl ?_
    refine AWp.skip (AWp.seq (AWp.seq (AWp.rowV (l := _) pok ?_)))
    refine sq.c (v := .int .i64 (0)) rfl rfl rfl rfl ?_
    refine sq.e (AWp.block ?_)
    refine AWp.loopV (fun d vs h' n2 => ∃ (i : Int), d = ((ls.length : Nat) - i + 1).toNat ∧ h = h' ∧ n ≤ n2 ∧ Free h n2 ∧ (0 ≤ i) ∧ (i ≤ (ls.length : Nat)) ∧ (∀ j : Nat, (j : Int) < i → ls[j]? = ms[j]?) ∧ ∃ y1 : Nat → Value, vs = [.slice a (ls.length) cp, .slice a2 (ms.length) cp2, undef, undef, (y1 4), .int .i64 (i), .slice a (ls.length) cp, .int .i64 (ls.length), .slice a2 (ms.length) cp2, .int .i64 (ms.length), .bool false, (y1 11), (y1 12), (y1 13), (y1 14), (y1 15), (y1 16), (y1 17), (y1 18), (y1 19), (y1 20), (y1 21), (y1 22), (y1 23), (y1 24), (y1 25), (y1 26), (y1 27), (y1 28), (y1 29), (y1 30), (y1 31), (y1 32), (y1 33), (y1 34), (y1 35), (y1 36), (y1 37), (y1 38), (y1 39), (y1 40)]) (((ls.length : Nat) - (0 : Int) + 1).toNat) ⟨0, rfl, rfl, hn, hf, (by omega), (by omega), (fun j hj => by omega), getV [undef, undef, undef, undef, .bool false, undef, undef, undef, undef, undef, undef, undef, undef, undef, undef, undef, undef, undef, undef, undef, undef, undef, undef, undef, undef, undef, undef, undef, undef, undef, undef, undef, undef, undef, undef, undef, undef, undef, undef, undef, undef], rfl⟩ ?_
    rintro d vs h' n2 ⟨i, rfl, rfl, hn, hf, hi0, hi1, hyes, y1, rfl⟩
    refine AWp.seq (AWp.seq (AWp.rowV (l := _) pok ?_))
    refine sq.c (v := .int .i64 (i)) rfl rfl rfl rfl ?_
    refine sq.c (v := .slice a (ls.length) cp) rfl rfl rfl rfl ?_
    refine sq.c (v := .int .i64 (ls.length)) rfl rfl (by kernel_rfl) rfl ?_
    refine sq.c (v := .bool (decide (i < ((ls.length : Nat) : Int)))) rfl rfl rfl rfl ?_
    refine sq.e ?_
    by_cases c4_3 : i < ((ls.length : Nat) : Int)
    · rw [decide_eq_true c4_3]
      refine AWp.condT rfl rfl ?_
      refine AWp.skip (AWp.seq (AWp.block (AWp.seq ?_)))
      refine AWp.anyV pok [] [0, 1, 2, 3, 4, 5, 6, 7, 8, 9, 10, 11, 12, 13, 14, 15, 16, 17, 18, 19, 20, 21, 22, 23] (by kernel_rfl) (by kernel_rfl) rfl (fun x fr fr' h n hd _ q => ⟨hd ▸ q.1, q.2⟩) ?_
      refine dq.c (v := .slice a (ls.length) cp) rfl (by kernel_rfl) rfl rfl rfl rfl ?_
      refine dq.c (v := .int .i64 (i)) rfl (by kernel_rfl) rfl rfl rfl rfl ?_
      have i9 : (0 : Int) ≤ (i : Int) := by omega
      obtain ⟨x10, hx_x10⟩ : ∃ x, (ls)[((i : Int)).toNat]? = some x := ⟨_, List.getElem?_eq_getElem (by omega)⟩
      obtain ⟨b3, o4, cs_b3, ow_b3, ci_b3, ie8, hb5, hc6, hr7⟩ := IsRow.at (P := Tryz.prog) (t := 22) (e := 40) (k := .i64) (by kernel_rfl) (by kernel_rfl) (hl.keep hs) i9 hx_x10
      refine dq.c (v := .pointer (some ⟨b3, o4, none⟩)) rfl (by kernel_rfl) rfl rfl ie8 rfl ?_
      refine dq.c (v := .pointer (some ⟨b3, o4, none⟩)) rfl (by kernel_rfl) rfl rfl (by kernel_rfl) rfl ?_
      refine dq.g (v := .string (x10.1)) rfl (by kernel_rfl) rfl rfl (ld1 (P := Tryz.prog) (t := 9) (p := o4 + 0) (v := .string (x10.1)) (by kernel_rfl) (by kernel_rfl) hb5 (hc6 0 _ rfl)) rfl ?_
      refine dq.c (v := .slice a2 (ms.length) cp2) rfl (by kernel_rfl) rfl rfl rfl rfl ?_
      refine dq.c (v := .int .i64 (i)) rfl (by kernel_rfl) rfl rfl rfl rfl ?_
      have i17 : (0 : Int) ≤ (i : Int) := by omega
      obtain ⟨x18, hx_x18⟩ : ∃ x, (ms)[((i : Int)).toNat]? = some x := ⟨_, List.getElem?_eq_getElem (by omega)⟩
      obtain ⟨b11, o12, cs_b11, ow_b11, ci_b11, ie16, hb13, hc14, hr15⟩ := IsRow.at (P := Tryz.prog) (t := 22) (e := 40) (k := .i64) (by kernel_rfl) (by kernel_rfl) (hm.keep hs) i17 hx_x18
      refine dq.c (v := .pointer (some ⟨b11, o12, none⟩)) rfl (by kernel_rfl) rfl rfl ie16 rfl ?_
      refine dq.c (v := .pointer (some ⟨b11, o12, none⟩)) rfl (by kernel_rfl) rfl rfl (by kernel_rfl) rfl ?_
      refine dq.g (v := .string (x18.1)) rfl (by kernel_rfl) rfl rfl (ld1 (P := Tryz.prog) (t := 9) (p := o12 + 0) (v := .string (x18.1)) (by kernel_rfl) (by kernel_rfl) hb13 (hc14 0 _ rfl)) rfl ?_
      refine dq.c (v := .bool (!decide (x10.1 = x18.1))) rfl (by kernel_rfl) rfl rfl (neD _ _) rfl ?_
      refine dq.c (v := .bool (!decide (x10.1 = x18.1))) rfl (by kernel_rfl) rfl rfl rfl rfl ?_
      by_cases c6_10 : x10.1 = x18.1
      · rw [decide_eq_true c6_10]
        refine dq.c (v := .slice a (ls.length) cp) rfl (by kernel_rfl) (wantT (g := 11) (d := 28) rfl rfl rfl) rfl rfl rfl ?_
        refine dq.c (v := .int .i64 (i)) rfl (by kernel_rfl) (wantT (g := 11) (d := 28) rfl rfl rfl) rfl rfl rfl ?_
        have i25 : (0 : Int) ≤ (i : Int) := by omega
        obtain ⟨b19, o20, cs_b19, ow_b19, ci_b19, ie24, hb21, hc22, hr23⟩ := IsRow.at (P := Tryz.prog) (t := 22) (e := 40) (k := .i64) (by kernel_rfl) (by kernel_rfl) (hl.keep hs) i25 hx_x10
        refine dq.c (v := .pointer (some ⟨b19, o20, none⟩)) rfl (by kernel_rfl) (wantT (g := 11) (d := 28) rfl rfl rfl) rfl ie24 rfl ?_
        refine dq.c (v := .pointer (some ⟨b19, o20 + 1, none⟩)) rfl (by kernel_rfl) (wantT (g := 11) (d := 28) rfl rfl rfl) rfl (by kernel_rfl) rfl ?_
        refine dq.g (v := .string (x10.2)) rfl (by kernel_rfl) (wantT (g := 11) (d := 28) rfl rfl rfl) rfl (ld1 (P := Tryz.prog) (t := 9) (p := o20 + 1) (v := .string (x10.2)) (by kernel_rfl) (by kernel_rfl) hb21 (hc22 1 _ rfl)) rfl ?_
        refine dq.c (v := .slice a2 (ms.length) cp2) rfl (by kernel_rfl) (wantT (g := 11) (d := 28) rfl rfl rfl) rfl rfl rfl ?_
        refine dq.c (v := .int .i64 (i)) rfl (by kernel_rfl) (wantT (g := 11) (d := 28) rfl rfl rfl) rfl rfl rfl ?_
        have i32 : (0 : Int) ≤ (i : Int) := by omega
        obtain ⟨b26, o27, cs_b26, ow_b26, ci_b26, ie31, hb28, hc29, hr30⟩ := IsRow.at (P := Tryz.prog) (t := 22) (e := 40) (k := .i64) (by kernel_rfl) (by kernel_rfl) (hm.keep hs) i32 hx_x18
        refine dq.c (v := .pointer (some ⟨b26, o27, none⟩)) rfl (by kernel_rfl) (wantT (g := 11) (d := 28) rfl rfl rfl) rfl ie31 rfl ?_
        refine dq.c (v := .pointer (some ⟨b26, o27 + 1, none⟩)) rfl (by kernel_rfl) (wantT (g := 11) (d := 28) rfl rfl rfl) rfl (by kernel_rfl) rfl ?_
        refine dq.g (v := .string (x18.2)) rfl (by kernel_rfl) (wantT (g := 11) (d := 28) rfl rfl rfl) rfl (ld1 (P := Tryz.prog) (t := 9) (p := o27 + 1) (v := .string (x18.2)) (by kernel_rfl) (by kernel_rfl) hb28 (hc29 1 _ rfl)) rfl ?_
        refine dq.c (v := .bool (!decide (x10.2 = x18.2))) rfl (by kernel_rfl) (wantT (g := 11) (d := 28) rfl rfl rfl) rfl (neD _ _) rfl ?_
        refine dq.c (v := .bool (!decide (x10.2 = x18.2))) rfl (by kernel_rfl) rfl rfl rfl rfl ?_
        refine dq.e ?_
        by_cases c6_22 : x10.2 = x18.2
        · rw [decide_eq_true c6_22]
          refine AWp.condF rfl rfl ?_
          refine AWp.skip (AWp.rowV (l := _) pok ?_)
          refine sq.c (v := .int .i64 (i)) rfl rfl rfl rfl ?_
          refine sq.c (v := .int .i64 (i + 1)) rfl rfl (okI (wrap_i64 (by omega) (by omega))) rfl ?_
          refine sq.c (v := .int .i64 (i + 1)) rfl rfl rfl rfl ?_
          refine sq.e ?_
          have hy : ∀ j : Nat, (j : Int) < i + 1 → ls[j]? = ms[j]? := by
            intro j hj
            by_cases e : j = i.toNat
            · rw [e, hx_x10, hx_x18, show x10 = x18 from Prod.ext c6_10 c6_22]
            · exact hyes j (by omega)
          refine ⟨_, _, rfl, by omega, i + 1, rfl, rfl, hn, hf, (by omega), (by omega), (hy), getV [undef, undef, undef, undef, (y1 4), undef, undef, undef, undef, undef, undef, .int .i64 (i), .slice a (ls.length) cp, .int .i64 (ls.length), .bool true, .int .i64 (i), .int .i64 (i + 1), .slice a (ls.length) cp, .int .i64 (i), .pointer (some ⟨b3, o4, none⟩), .pointer (some ⟨b3, o4, none⟩), .string (x10.1), .slice a2 (ms.length) cp2, .int .i64 (i), .pointer (some ⟨b11, o12, none⟩), .pointer (some ⟨b11, o12, none⟩), .string (x18.1), .bool false, .bool false, .slice a (ls.length) cp, .int .i64 (i), .pointer (some ⟨b19, o20, none⟩), .pointer (some ⟨b19, o20 + 1, none⟩), .string (x10.2), .slice a2 (ms.length) cp2, .int .i64 (i), .pointer (some ⟨b26, o27, none⟩), .pointer (some ⟨b26, o27 + 1, none⟩), .string (x18.2), .bool false, .bool false], rfl⟩
        · rw [decide_eq_false c6_22]
          refine AWp.condT rfl rfl ?_
          refine AWp.seq (AWp.rowV (l := _) pok ?_)
          refine sq.c (v := .bool false) rfl rfl rfl rfl ?_
          refine sq.e ?_
          refine AWp.ret ?_
          refine ⟨rfl, [.bool false], rfl, .bool false, rfl, hs, hn, ?_⟩
          show Value.bool false = .bool (decide (ls = ms))
          exact congrArg Value.bool (decide_eq_false (same_not hx_x10 hx_x18 (by intro e; rw [e] at c6_22; exact c6_22 rfl))).symm
      · rw [decide_eq_false c6_10]
        refine dq.s rfl (wantF (g := 11) (d := 28) rfl rfl rfl) rfl ?_
        refine dq.s rfl (wantF (g := 11) (d := 28) rfl rfl rfl) rfl ?_
        refine dq.s rfl (wantF (g := 11) (d := 28) rfl rfl rfl) rfl ?_
        refine dq.s rfl (wantF (g := 11) (d := 28) rfl rfl rfl) rfl ?_
        refine dq.s rfl (wantF (g := 11) (d := 28) rfl rfl rfl) rfl ?_
        refine dq.s rfl (wantF (g := 11) (d := 28) rfl rfl rfl) rfl ?_
        refine dq.s rfl (wantF (g := 11) (d := 28) rfl rfl rfl) rfl ?_
        refine dq.s rfl (wantF (g := 11) (d := 28) rfl rfl rfl) rfl ?_
        refine dq.s rfl (wantF (g := 11) (d := 28) rfl rfl rfl) rfl ?_
        refine dq.s rfl (wantF (g := 11) (d := 28) rfl rfl rfl) rfl ?_
        refine dq.s rfl (wantF (g := 11) (d := 28) rfl rfl rfl) rfl ?_
        refine dq.c (v := .bool true) rfl (by kernel_rfl) rfl rfl rfl rfl ?_
        refine dq.e ?_
        refine AWp.condT rfl rfl ?_
        refine AWp.seq (AWp.rowV (l := _) pok ?_)
        refine sq.c (v := .bool false) rfl rfl rfl rfl ?_
        refine sq.e ?_
        refine AWp.ret ?_
        refine ⟨rfl, [.bool false], rfl, .bool false, rfl, hs, hn, ?_⟩
        show Value.bool false = .bool (decide (ls = ms))
        exact congrArg Value.bool (decide_eq_false (same_not hx_x10 hx_x18 (by intro e; rw [e] at c6_10; exact c6_10 rfl))).symm
    · rw [decide_eq_false c4_3]
      refine AWp.condF rfl rfl ?_
      refine AWp.exit ?_
      refine AWp.seq (AWp.rowV (l := _) pok ?_)
      refine sq.c (v := .bool true) rfl rfl rfl rfl ?_
      refine sq.e ?_
      refine AWp.ret ?_
      refine ⟨rfl, [.bool true], rfl, .bool true, rfl, hs, hn, ?_⟩
      show Value.bool true = .bool (decide (ls = ms))
      exact congrArg Value.bool (decide_eq_true (same_all (Int.ofNat.inj c1_4) (fun j hj => hyes j (by omega)))).symm
  · rw [decide_eq_false c1_4]
    refine AWp.condT rfl rfl ?_
    refine AWp.seq (AWp.rowV (l := _) pok ?_)
    refine sq.c (v := .bool false) rfl rfl rfl rfl ?_
    refine sq.e ?_
    refine AWp.ret ?_
    refine ⟨rfl, [.bool false], rfl, .bool false, rfl, hs, hn, ?_⟩
    show Value.bool false = .bool (decide (ls = ms))
    exact congrArg Value.bool (decide_eq_false (fun e => c1_4 (by rw [e]))).symm
theorem row_place {P : Program} {t e : TypeId} {k : Nat} {b n cp : Nat} {i : Int} {kd : IntKind} (hu : P.underlying t = some (.slice e)) (hi : (P.info? e).map (·.size) = some k) (h0 : 0 ≤ i) (h1 : i < (n : Nat)) :
    indexAddrE P t (.slice (some ⟨b, 0, none⟩) n cp) (.int kd i) = some (.pointer (some ⟨b, 0 + i.toNat * k, none⟩)) := by
  unfold indexAddrE
  rw [hu]
  simp only
  cases h40 : P.info? e with
  | none => rw [h40] at hi; cases hi
  | some inf =>
    rw [h40] at hi
    simp only [Option.map_some, Option.some.injEq] at hi
    simp only [hi]
    rw [if_pos (by omega)]
theorem f12_spec {h : Heap} {n : Nat} {a : Option Addr} {cp : Nat} (ls : List Lab) (hl : IsRow encLab h (.slice a ls.length cp) ls) :
    Makes Tryz.prog 12 [.slice a (ls.length) cp] h n [] (fun u _ _ => ∃ b, u = .bool b ∧ (b = false → ls.length ≤ 500 ∧ ∀ x ∈ ls, x.1.data.toList.length < 5000 ∧ x.2.data.toList.length < 5000)) := by
  refine Makes.free fun hf => ?_
  have hs : SubBut h h [] := .refl _ _
  have hn : n ≤ n := Nat.le_refl _
  have hf0 := hf
  refine Makes.of_bodyV (args := [.slice a (ls.length) cp]) (vs := [.slice a (ls.length) cp, undef, undef, undef, undef, undef, undef, undef, undef, undef, undef, undef, undef, undef, undef, undef, undef, undef, undef, undef, undef, undef, undef, undef, undef, undef, undef, undef, undef, undef, undef, undef, undef, undef, undef]) Tryz.func12 rfl rfl ?_
  refine AWp.seq (AWp.rowV (l := _) pok ?_)
  refine sq.c (v := .bool false) rfl rfl rfl rfl ?_
  refine sq.e (AWp.seq (AWp.rowV (l := _) pok ?_))
  refine sq.c (v := .int .i64 (0)) rfl rfl rfl rfl ?_
  refine sq.e (AWp.seq (AWp.seq (AWp.rowV (l := _) pok ?_)))
  refine sq.c (v := .int .i64 (0)) rfl rfl rfl rfl ?_
  refine sq.e (AWp.block ?_)
  refine AWp.loopV (fun d vs h' n2 => ∃ (i k : Int), d = ((ls.length : Nat) - i + 1).toNat ∧ h = h' ∧ n ≤ n2 ∧ Free h n2 ∧ (0 ≤ i) ∧ (i ≤ (ls.length : Nat)) ∧ (0 ≤ k) ∧ (k < 20000) ∧ (10 * i ≤ k) ∧ (∀ (j : Nat) (x : Lab), (j : Int) < i → ls[j]? = some x → 5000 ≤ k ∨ x.1.data.toList.length < 5000 ∧ x.2.data.toList.length < 5000) ∧ ∃ y1 : Nat → Value, vs = [.slice a (ls.length) cp, undef, .bool false, .int .i64 (k), .int .i64 (i), (y1 5), (y1 6), (y1 7), (y1 8), (y1 9), (y1 10), (y1 11), (y1 12), (y1 13), (y1 14), (y1 15), (y1 16), (y1 17), (y1 18), (y1 19), (y1 20), (y1 21), (y1 22), (y1 23), (y1 24), (y1 25), (y1 26), (y1 27), (y1 28), (y1 29), (y1 30), (y1 31), (y1 32), undef, undef]) (((ls.length : Nat) - (0 : Int) + 1).toNat) ⟨0, 0, rfl, rfl, hn, hf, (by omega), (by omega), (by omega), (by omega), (by omega), (fun j x hj => by omega), getV [undef, undef, undef, undef, undef, undef, undef, undef, undef, undef, undef, undef, undef, undef, undef, undef, undef, undef, undef, undef, undef, undef, undef, undef, undef, undef, undef, undef, undef, undef, undef, undef, undef], rfl⟩ ?_
  rintro d vs h' n2 ⟨i, k, rfl, rfl, hn, hf, hi0, hi1, hk0, hk1, hki, hyes, y1, rfl⟩
  refine AWp.seq (AWp.seq (AWp.rowV (l := _) pok ?_))
  refine sq.c (v := .int .i64 (i)) rfl rfl rfl rfl ?_
  refine sq.c (v := .slice a (ls.length) cp) rfl rfl rfl rfl ?_
  refine sq.c (v := .int .i64 (((ls.length : Nat) : Int))) rfl rfl (by kernel_rfl) rfl ?_
  refine sq.c (v := .bool (decide (i < (((ls.length : Nat) : Int))))) rfl rfl rfl rfl ?_
  refine sq.c (v := .bool (decide (i < (((ls.length : Nat) : Int))))) rfl rfl rfl rfl ?_
  by_cases c3_3 : i < (((ls.length : Nat) : Int))
  · rw [decide_eq_true c3_3]
    refine sq.c (v := .int .i64 (k)) (wantT (g := 4) (d := 9) rfl rfl rfl) rfl rfl rfl ?_
    refine sq.c (v := .bool (decide (k < (5000 : Int)))) (wantT (g := 4) (d := 9) rfl rfl rfl) rfl rfl rfl ?_
    refine sq.c (v := .bool (decide (k < (5000 : Int)))) rfl rfl rfl rfl ?_
    refine sq.e ?_
    by_cases c3_6 : k < (5000 : Int)
    · rw [decide_eq_true c3_6]
      refine AWp.condT rfl rfl ?_
      refine AWp.skip (AWp.seq (AWp.block ?_))
      refine AWp.anyV pok [] [0, 1, 2, 3, 4, 5, 6, 7, 8, 9, 10, 11, 12, 13, 14, 15, 16, 17, 18] (by kernel_rfl) (by kernel_rfl) rfl (fun x fr fr' h n hd _ q => ⟨hd ▸ q.1, q.2⟩) ?_
      refine dq.c (v := .int .i64 (k)) rfl (by kernel_rfl) rfl rfl rfl rfl ?_
      refine dq.c (v := .int .i64 (k + 10)) rfl (by kernel_rfl) rfl rfl (okI (wrap_i64 (by omega) (by omega))) rfl ?_
      refine dq.c (v := .slice a (ls.length) cp) rfl (by kernel_rfl) rfl rfl rfl rfl ?_
      refine dq.c (v := .int .i64 (i)) rfl (by kernel_rfl) rfl rfl rfl rfl ?_
      have i9 : (0 : Int) ≤ (i : Int) := by omega
      obtain ⟨x10, hx_x10⟩ : ∃ x, (ls)[((i : Int)).toNat]? = some x := ⟨_, List.getElem?_eq_getElem (by omega)⟩
      obtain ⟨b3, o4, cs_b3, ow_b3, ci_b3, ie8, hb5, hc6, hr7⟩ := IsRow.at (P := Tryz.prog) (t := 22) (e := 40) (k := .i64) (by kernel_rfl) (by kernel_rfl) (hl.keep hs) i9 hx_x10
      refine dq.c (v := .pointer (some ⟨b3, o4, none⟩)) rfl (by kernel_rfl) rfl rfl ie8 rfl ?_
      refine dq.c (v := .pointer (some ⟨b3, o4, none⟩)) rfl (by kernel_rfl) rfl rfl (by kernel_rfl) rfl ?_
      refine dq.g (v := .string (x10.1)) rfl (by kernel_rfl) rfl rfl (ld1 (P := Tryz.prog) (t := 9) (p := o4 + 0) (v := .string (x10.1)) (by kernel_rfl) (by kernel_rfl) hb5 (hc6 0 _ rfl)) rfl ?_
      refine dq.c (v := .int .i64 ((((x10.1).data.toList.length : Nat) : Int))) rfl (by kernel_rfl) rfl rfl (by kernel_rfl) rfl ?_
      refine dq.c (v := .int .i64 (min ((((x10.1).data.toList.length : Nat) : Int)) (5000))) rfl (by kernel_rfl) rfl rfl (okI (minE _ _)) rfl ?_
      refine dq.c (v := .int .i64 ((k + 10) + (min ((((x10.1).data.toList.length : Nat) : Int)) (5000)))) rfl (by kernel_rfl) rfl rfl (okI (wrap_i64 (by omega) (by omega))) rfl ?_
      refine dq.c (v := .slice a (ls.length) cp) rfl (by kernel_rfl) rfl rfl rfl rfl ?_
      refine dq.c (v := .int .i64 (i)) rfl (by kernel_rfl) rfl rfl rfl rfl ?_
      have i17 : (0 : Int) ≤ (i : Int) := by omega
      obtain ⟨b11, o12, cs_b11, ow_b11, ci_b11, ie16, hb13, hc14, hr15⟩ := IsRow.at (P := Tryz.prog) (t := 22) (e := 40) (k := .i64) (by kernel_rfl) (by kernel_rfl) (hl.keep hs) i17 hx_x10
      refine dq.c (v := .pointer (some ⟨b11, o12, none⟩)) rfl (by kernel_rfl) rfl rfl ie16 rfl ?_
      refine dq.c (v := .pointer (some ⟨b11, o12 + 1, none⟩)) rfl (by kernel_rfl) rfl rfl (by kernel_rfl) rfl ?_
      refine dq.g (v := .string (x10.2)) rfl (by kernel_rfl) rfl rfl (ld1 (P := Tryz.prog) (t := 9) (p := o12 + 1) (v := .string (x10.2)) (by kernel_rfl) (by kernel_rfl) hb13 (hc14 1 _ rfl)) rfl ?_
      refine dq.c (v := .int .i64 ((((x10.2).data.toList.length : Nat) : Int))) rfl (by kernel_rfl) rfl rfl (by kernel_rfl) rfl ?_
      refine dq.c (v := .int .i64 (min ((((x10.2).data.toList.length : Nat) : Int)) (5000))) rfl (by kernel_rfl) rfl rfl (okI (minE _ _)) rfl ?_
      refine dq.c (v := .int .i64 (((k + 10) + (min ((((x10.1).data.toList.length : Nat) : Int)) (5000))) + (min ((((x10.2).data.toList.length : Nat) : Int)) (5000)))) rfl (by kernel_rfl) rfl rfl (okI (wrap_i64 (by omega) (by omega))) rfl ?_
      refine dq.c (v := .int .i64 (((k + 10) + (min ((((x10.1).data.toList.length : Nat) : Int)) (5000))) + (min ((((x10.2).data.toList.length : Nat) : Int)) (5000)))) rfl (by kernel_rfl) rfl rfl rfl rfl ?_
      refine dq.e (AWp.rowV (l := _) pok ?_)
      refine sq.c (v := .int .i64 (i)) rfl rfl rfl rfl ?_
      refine sq.c (v := .int .i64 (i + 1)) rfl rfl (okI (wrap_i64 (by omega) (by omega))) rfl ?_
      refine sq.c (v := .int .i64 (i + 1)) rfl rfl rfl rfl ?_
      refine sq.e ?_
      have hy : ∀ (j : Nat) (x : Lab), (j : Int) < i + 1 → ls[j]? = some x → 5000 ≤ k + 10 + min (x10.1.data.toList.length : Int) 5000 + min (x10.2.data.toList.length : Int) 5000 ∨ x.1.data.toList.length < 5000 ∧ x.2.data.toList.length < 5000 := by
        intro j x hj hx
        by_cases e : j = i.toNat
        · rw [e, hx_x10] at hx; cases hx; omega
        · rcases hyes j x (by omega) hx with q | q
          · left; omega
          · exact .inr q
      refine ⟨_, _, rfl, by omega, i + 1, _, rfl, rfl, hn, hf, (by omega), (by omega), (by omega), (by omega), (by omega), (hy), getV [undef, undef, undef, undef, undef, .int .i64 (i), .slice a (ls.length) cp, .int .i64 (((ls.length : Nat) : Int)), .bool true, .bool true, .int .i64 (k), .bool true, .bool true, .int .i64 (i), .int .i64 (i + 1), .int .i64 (k), .int .i64 (k + 10), .slice a (ls.length) cp, .int .i64 (i), .pointer (some ⟨b3, o4, none⟩), .pointer (some ⟨b3, o4, none⟩), .string (x10.1), .int .i64 ((((x10.1).data.toList.length : Nat) : Int)), .int .i64 (min ((((x10.1).data.toList.length : Nat) : Int)) (5000)), .int .i64 ((k + 10) + (min ((((x10.1).data.toList.length : Nat) : Int)) (5000))), .slice a (ls.length) cp, .int .i64 (i), .pointer (some ⟨b11, o12, none⟩), .pointer (some ⟨b11, o12 + 1, none⟩), .string (x10.2), .int .i64 ((((x10.2).data.toList.length : Nat) : Int)), .int .i64 (min ((((x10.2).data.toList.length : Nat) : Int)) (5000)), .int .i64 (((k + 10) + (min ((((x10.1).data.toList.length : Nat) : Int)) (5000))) + (min ((((x10.2).data.toList.length : Nat) : Int)) (5000)))], rfl⟩
    · rw [decide_eq_false c3_6]
      refine AWp.condF rfl rfl ?_
      refine AWp.exit ?_
      refine AWp.seq (AWp.rowV (l := _) pok ?_)
      refine sq.c (v := .int .i64 (k)) rfl rfl rfl rfl ?_
      refine sq.c (v := .bool (decide ((5000 : Int) ≤ k))) rfl rfl rfl rfl ?_
      refine sq.c (v := .bool (decide ((5000 : Int) ≤ k))) rfl rfl rfl rfl ?_
      refine sq.e ?_
      refine AWp.ret ?_
      refine ⟨rfl, [.bool (decide ((5000 : Int) ≤ k))], rfl, .bool (decide ((5000 : Int) ≤ k)), rfl, hs, hn, ?_⟩
      refine ⟨_, rfl, fun hb => ?_⟩
      have hb : ¬ 5000 ≤ k := by simpa using hb
      refine ⟨by omega, fun x hx => ?_⟩
      obtain ⟨j, hj⟩ := List.getElem?_of_mem hx
      have hlt := (List.getElem?_eq_some_iff.1 hj).1
      rcases hyes j x (by omega) hj with q | q
      · omega
      · exact q
  · rw [decide_eq_false c3_3]
    refine sq.s (wantF (g := 4) (d := 9) rfl rfl rfl) rfl ?_
    refine sq.s (wantF (g := 4) (d := 9) rfl rfl rfl) rfl ?_
    refine sq.c (v := .bool false) rfl rfl rfl rfl ?_
    refine sq.e ?_
    refine AWp.condF rfl rfl ?_
    refine AWp.exit ?_
    refine AWp.seq (AWp.rowV (l := _) pok ?_)
    refine sq.c (v := .int .i64 (k)) rfl rfl rfl rfl ?_
    refine sq.c (v := .bool (decide ((5000 : Int) ≤ k))) rfl rfl rfl rfl ?_
    refine sq.c (v := .bool (decide ((5000 : Int) ≤ k))) rfl rfl rfl rfl ?_
    refine sq.e ?_
    refine AWp.ret ?_
    refine ⟨rfl, [.bool (decide ((5000 : Int) ≤ k))], rfl, .bool (decide ((5000 : Int) ≤ k)), rfl, hs, hn, ?_⟩
    refine ⟨_, rfl, fun hb => ?_⟩
    have hb : ¬ 5000 ≤ k := by simpa using hb
    refine ⟨by omega, fun x hx => ?_⟩
    obtain ⟨j, hj⟩ := List.getElem?_of_mem hx
    have hlt := (List.getElem?_eq_some_iff.1 hj).1
    rcases hyes j x (by omega) hj with q | q
    · omega
    · exact q
theorem f14_spec {h : Heap} {n : Nat} {a : Option Addr} {cp : Nat} (ls : List Lab) (hl : IsRow encLab h (.slice a ls.length cp) ls) (hlen : ls.length < 1000000) :
    Makes Tryz.prog 14 [.slice a (ls.length) cp] h n [] (fun v h2 _ => OwnRow encLab 40 h h2 v ls) := by
  refine Makes.free fun hf => ?_
  have hs : SubBut h h [] := .refl _ _
  have hn : n ≤ n := Nat.le_refl _
  have hf0 := hf
  refine Makes.of_bodyV (args := [.slice a (ls.length) cp]) (vs := [.slice a (ls.length) cp, undef, undef, undef, undef, undef]) Tryz.func14 rfl rfl ?_
  refine AWp.seq (AWp.rowV (l := _) pok ?_)
  refine sq.c (v := .slice none (0) (0)) rfl rfl rfl rfl ?_
  refine sq.e (AWp.seq (AWp.rowV (l := _) pok ?_))
  have z_n : h.get n = none := hf0 _ hn
  refine sq.op rfl rfl (Does.build (e := 40) (cs := []) hf (fun _ _ => by kernel_rfl)) ?_
  rintro _ h2 n3 ⟨rfl, hb1⟩ s4 hn2 hf
  refine sq.w ?_
  have hs := hs.trans s4
  have hn := Nat.le_trans hn hn2
  refine sq.c (v := .slice a (ls.length) cp) rfl rfl rfl rfl ?_
  have hz0 : h.get n3 = none := hf0 _ hn
  have hfo := hf
  refine sq.op rfl rfl (Does.append (E := encLab) (xs := []) (ys := ls) appLab ⟨.slice 40, by kernel_rfl, fun _ q => by cases q⟩ hf hs (.inl ⟨rfl, .inr ⟨_, _, rfl⟩⟩) (hl.keep hs) rfl rfl (by simp only [List.length_nil]; omega) (by simp only [List.length_nil]; omega) hz0) ?_
  rintro v8 h5 n6 ⟨R_o, hs, hB9⟩ s7 hn2 hf
  refine sq.w ?_
  simp only [List.nil_append] at R_o
  have d_o_n : ∀ c ∈ blkOf v8, c ≠ n := fun c hc => (hB9 c hc).elim (fun q => absurd q (by simp [blkOf])) (fun q => by rw [q]; exact (hfo.ne hb1).symm)
  have s7 : SubBut _ _ [] := s7.mono (by simp [blkOf])
  obtain ⟨a10, cp11, rfl⟩ := R_o.slice
  have hn := Nat.le_trans hn hn2
  refine sq.c (v := .slice a10 (ls).length cp11) rfl rfl rfl rfl ?_
  refine sq.e ?_
  refine AWp.ret ?_
  refine ⟨rfl, [.slice a10 (ls).length cp11], rfl, .slice a10 (ls).length cp11, rfl, hs, hn, ?_⟩
  exact R_o
theorem f17_row {h : Heap} {n : Nat} {b cp : Nat} {ci : CI} {a2 : Option Addr} {cp2 : Nat} (ls ms : List Lab) (hb : h.get b = some (.cells (encLab.row ls) true ci)) (hlc : ls.length ≤ cp) (hm : IsRow encLab h (.slice a2 ms.length cp2) ms) (hlen : ls.length < 9223372036854775808) :
    Makes Tryz.prog 17 [.slice (some ⟨b, 0, none⟩) (ls.length) cp, .slice a2 (ms.length) cp2] h n [b] (fun u _ _ => u = .bool (decide (ls = ms))) := by
  refine Makes.free fun hf => ?_
  have hs : SubBut h h [b] := .refl _ _
  have hn : n ≤ n := Nat.le_refl _
  have hf0 := hf
  refine Makes.of_bodyV (args := [.slice (some ⟨b, 0, none⟩) (ls.length) cp, .slice a2 (ms.length) cp2]) (vs := [.slice (some ⟨b, 0, none⟩) (ls.length) cp, .slice a2 (ms.length) cp2, undef, undef, undef, undef, undef, undef, undef, undef, undef, undef, undef, undef, undef, undef, undef, undef, undef, undef, undef]) Tryz.func17 rfl rfl ?_
  refine AWp.seq (AWp.rowV (l := _) pok ?_)
  refine sq.c (v := .bool false) rfl rfl rfl rfl ?_
  refine sq.e (AWp.seq (AWp.rowV (l := _) pok ?_))
  refine sq.c (v := .slice (some ⟨b, 0, none⟩) (ls.length) cp) rfl rfl rfl rfl ?_
  refine sq.c (v := .slice a2 (ms.length) cp2) rfl rfl rfl rfl ?_
  refine sq.t (v := .bool (decide (ls = ms))) rfl (CallsF.fn rfl (by kernel_rfl) rfl rfl) (fun hf => f27_spec _ _ (IsRow.of hb hlc) hm hlen) hf rfl ?_
  intro n1 hn2 hf
  have hn := Nat.le_trans hn hn2
  refine sq.c (v := .bool (decide (ls = ms))) rfl rfl rfl rfl ?_
  refine sq.e (AWp.seq (AWp.seq (AWp.rowV (l := _) pok ?_)))
  refine sq.c (v := .int .i64 (0)) rfl rfl rfl rfl ?_
  refine sq.e (AWp.block ?_)
  refine AWp.loopV (fun d vs h3 n4 => ∃ (i : Int) (zs : List Lab), d = ((ls.length : Nat) - i + 1).toNat ∧ SubBut h h3 [b] ∧ n ≤ n4 ∧ Free h3 n4 ∧ h3.get b = some (.cells (encLab.row zs) true ci) ∧ (0 ≤ i) ∧ (i ≤ (ls.length : Nat)) ∧ (zs.length = ls.length) ∧ ∃ y2 : Nat → Value, vs = [.slice (some ⟨b, 0, none⟩) (ls.length) cp, .slice a2 (ms.length) cp2, undef, undef, .bool false, .bool (decide (ls = ms)), .int .i64 (i), .slice (some ⟨b, 0, none⟩) (ls.length) cp, .slice a2 (ms.length) cp2, .bool (decide (ls = ms)), (y2 10), (y2 11), (y2 12), (y2 13), (y2 14), (y2 15), (y2 16), (y2 17), (y2 18), (y2 19), undef]) (((ls.length : Nat) - (0 : Int) + 1).toNat) ⟨0, ls, rfl, hs, hn, hf, hb, (by omega), (by omega), (rfl), getV [undef, undef, undef, undef, undef, undef, undef, undef, undef, undef, undef, undef, undef, undef, undef, undef, undef, undef, undef, undef], rfl⟩ ?_
  rintro d vs h3 n4 ⟨i, zs, rfl, hs, hn, hf, hb, hi0, hi1, hz, y2, rfl⟩
  refine AWp.seq (AWp.seq (AWp.rowV (l := _) pok ?_))
  refine sq.c (v := .int .i64 (i)) rfl rfl rfl rfl ?_
  refine sq.c (v := .slice (some ⟨b, 0, none⟩) (ls.length) cp) rfl rfl rfl rfl ?_
  refine sq.c (v := .int .i64 (((ls.length : Nat) : Int))) rfl rfl (by kernel_rfl) rfl ?_
  refine sq.c (v := .bool (decide (i < (((ls.length : Nat) : Int))))) rfl rfl rfl rfl ?_
  refine sq.e ?_
  by_cases c3_3 : i < (((ls.length : Nat) : Int))
  · rw [decide_eq_true c3_3]
    refine AWp.condT rfl rfl ?_
    refine AWp.skip (AWp.seq (AWp.block (AWp.rowV (l := _) pok ?_)))
    refine sq.c (v := .slice (some ⟨b, 0, none⟩) (ls.length) cp) rfl rfl rfl rfl ?_
    refine sq.c (v := .int .i64 (i)) rfl rfl rfl rfl ?_
    refine sq.c (v := .agg #[.string (⟨#[115, 112, 111, 105, 108, 116]⟩), .string (⟨#[]⟩)]) rfl rfl (by kernel_rfl) rfl ?_
    refine sq.c (v := .pointer (some ⟨b, 0 + i.toNat * 2, none⟩)) rfl rfl (row_place (P := Tryz.prog) (t := 22) (e := 40) (kd := .i64) (cp := cp) (by kernel_rfl) (by kernel_rfl) (by omega) (by omega)) rfl ?_
    refine sq.op rfl rfl (Does.store (k := 2) (xs := encLab.cells (⟨#[115, 112, 111, 105, 108, 116]⟩, ⟨#[]⟩)) (cs' := encLab.row (zs.set i.toNat (⟨#[115, 112, 111, 105, 108, 116]⟩, ⟨#[]⟩))) hf (by kernel_rfl) rfl rfl rfl hb rfl rfl (by rw [encLab.row_length]; show 0 + i.toNat * 2 + 2 ≤ 2 * zs.length; omega) (by rw [Nat.zero_add, Nat.mul_comm]; exact encLab.row_set _ _ _ (by omega))) ?_
    rintro _ h6 n7 ⟨rfl, hb5⟩ s8 hn2 hf
    refine sq.w0 ?_
    have hs := hs.at (by simp) s8
    have hn := Nat.le_trans hn hn2
    refine sq.e (AWp.rowV (l := _) pok ?_)
    refine sq.c (v := .int .i64 (i)) rfl rfl rfl rfl ?_
    refine sq.c (v := .int .i64 (i + 1)) rfl rfl (okI (wrap_i64 (by omega) (by omega))) rfl ?_
    refine sq.c (v := .int .i64 (i + 1)) rfl rfl rfl rfl ?_
    refine sq.e ?_
    refine ⟨_, _, rfl, by omega, i + 1, _, rfl, hs, hn, hf, hb5, (by omega), (by omega), (by rw [List.length_set, hz]), getV [undef, undef, undef, undef, undef, undef, undef, undef, undef, undef, .int .i64 (i), .slice (some ⟨b, 0, none⟩) (ls.length) cp, .int .i64 (((ls.length : Nat) : Int)), .bool true, .int .i64 (i), .int .i64 (i + 1), .slice (some ⟨b, 0, none⟩) (ls.length) cp, .int .i64 (i), .agg #[.string (⟨#[115, 112, 111, 105, 108, 116]⟩), .string (⟨#[]⟩)], .pointer (some ⟨b, 0 + i.toNat * 2, none⟩)], rfl⟩
  · rw [decide_eq_false c3_3]
    refine AWp.condF rfl rfl ?_
    refine AWp.exit ?_
    refine AWp.seq (AWp.rowV (l := _) pok ?_)
    refine sq.c (v := .bool (decide (ls = ms))) rfl rfl rfl rfl ?_
    refine sq.c (v := .bool (decide (ls = ms))) rfl rfl rfl rfl ?_
    refine sq.e ?_
    refine AWp.ret ?_
    refine ⟨rfl, [.bool (decide (ls = ms))], rfl, .bool (decide (ls = ms)), rfl, hs, hn, ?_⟩
    rfl
theorem f17_nil {h : Heap} {n : Nat} {a a2 : Option Addr} {cp cp2 : Nat} (ms : List Lab) (hl : IsRow encLab h (.slice a 0 cp) []) (hm : IsRow encLab h (.slice a2 ms.length cp2) ms) :
    Makes Tryz.prog 17 [.slice a (0) cp, .slice a2 (ms.length) cp2] h n [] (fun u _ _ => u = .bool (decide (([] : List Lab) = ms))) := by
  refine Makes.free fun hf => ?_
  have hs : SubBut h h [] := .refl _ _
  have hn : n ≤ n := Nat.le_refl _
  have hf0 := hf
  refine Makes.of_bodyV (args := [.slice a (0) cp, .slice a2 (ms.length) cp2]) (vs := [.slice a (0) cp, .slice a2 (ms.length) cp2, undef, undef, undef, undef, undef, undef, undef, undef, undef, undef, undef, undef, undef, undef, undef, undef, undef, undef, undef]) Tryz.func17 rfl rfl ?_
  refine AWp.seq (AWp.rowV (l := _) pok ?_)
  refine sq.c (v := .bool false) rfl rfl rfl rfl ?_
  refine sq.e (AWp.seq (AWp.rowV (l := _) pok ?_))
  refine sq.c (v := .slice a (0) cp) rfl rfl rfl rfl ?_
  refine sq.c (v := .slice a2 (ms.length) cp2) rfl rfl rfl rfl ?_
  refine sq.t (v := .bool (decide (([] : List Lab) = ms))) rfl (CallsF.fn rfl (by kernel_rfl) rfl rfl) (fun hf => f27_spec [] _ hl hm (by decide)) hf rfl ?_
  intro n1 hn2 hf
  have hn := Nat.le_trans hn hn2
  refine sq.c (v := .bool (decide (([] : List Lab) = ms))) rfl rfl rfl rfl ?_
  refine sq.e (AWp.seq (AWp.seq (AWp.rowV (l := _) pok ?_)))
  refine sq.c (v := .int .i64 (0)) rfl rfl rfl rfl ?_
  refine sq.e (AWp.block ?_)
  refine AWp.loopV (fun d vs h' n3 => ∃ (i : Int), d = (0 : Nat) ∧ h = h' ∧ n ≤ n3 ∧ Free h n3 ∧ (0 ≤ i) ∧ ∃ y2 : Nat → Value, vs = [.slice a (0) cp, .slice a2 (ms.length) cp2, undef, undef, .bool false, .bool (decide (([] : List Lab) = ms)), .int .i64 (i), .slice a (0) cp, .slice a2 (ms.length) cp2, .bool (decide (([] : List Lab) = ms)), (y2 10), (y2 11), (y2 12), (y2 13), (y2 14), (y2 15), (y2 16), (y2 17), (y2 18), (y2 19), undef]) ((0 : Nat)) ⟨0, rfl, rfl, hn, hf, (by omega), getV [undef, undef, undef, undef, undef, undef, undef, undef, undef, undef, undef, undef, undef, undef, undef, undef, undef, undef, undef, undef], rfl⟩ ?_
  rintro d vs h' n3 ⟨i, rfl, rfl, hn, hf, hi0, y2, rfl⟩
  refine AWp.seq (AWp.seq (AWp.rowV (l := _) pok ?_))
  refine sq.c (v := .int .i64 (i)) rfl rfl rfl rfl ?_
  refine sq.c (v := .slice a (0) cp) rfl rfl rfl rfl ?_
  refine sq.c (v := .int .i64 (0)) rfl rfl (by kernel_rfl) rfl ?_
  refine sq.c (v := .bool (decide (i < (0 : Int)))) rfl rfl rfl rfl ?_
  refine sq.e ?_
  by_cases c3_3 : i < (0 : Int)
  · exfalso; omega
  · rw [decide_eq_false c3_3]
    refine AWp.condF rfl rfl ?_
    refine AWp.exit ?_
    refine AWp.seq (AWp.rowV (l := _) pok ?_)
    refine sq.c (v := .bool (decide (([] : List Lab) = ms))) rfl rfl rfl rfl ?_
    refine sq.c (v := .bool (decide (([] : List Lab) = ms))) rfl rfl rfl rfl ?_
    refine sq.e ?_
    refine AWp.ret ?_
    refine ⟨rfl, [.bool (decide (([] : List Lab) = ms))], rfl, .bool (decide (([] : List Lab) = ms)), rfl, hs, hn, ?_⟩
    rfl
theorem appByte : AppT Tryz.prog encByte 42 5 1 := ⟨by kernel_rfl, by kernel_rfl, by kernel_rfl, fun _ => rfl⟩
def lo8 (n : Int) : UInt8 := UInt8.ofNat n.toNat
end Go.Proofs.YtkpjfibpaojelaaGreatDoor
namespace Go.Proofs.YtkpjfibpaojelaaGreatDoor
open Go Go.Abs
set_option maxRecDepth 100000
def tabA : Tab := [(13, [], .bool true)]
theorem tabA_run (c : Nat → CI) : tabB Tryz.prog plans (tabOv laidL []) (laidHeap c laidL) tabA = true := by kernel_rfl
theorem tabA_ok : TabOk Tryz.prog laidL tabA := TabOk.of_run pok plans_ok laidL_lt .nil tabA_run
end Go.Proofs.YtkpjfibpaojelaaGreatDoor
namespace Go.Proofs.YtkpjfibpaojelaaGreatDoor
open Go Go.Abs
set_option maxRecDepth 100000
set_option maxHeartbeats 4000000
theorem f13_spec {h : Heap} {n : Nat} (hl : Laid0 h) : Tells Tryz.prog 13 [] h n (.bool true) := by
  obtain ⟨c, hs⟩ := hl
  have := ACall.frame (P := Tryz.prog) (n := n) (laidHeap_ro c laidL_lt) hs (args := []) rfl (v := .bool true) rfl ((tabA_ok _ (List.mem_singleton.2 rfl)).2.2 c)
  exact this.mono fun _ h' _ hn _ ⟨a, b, _⟩ => ⟨h', Heap.sub_refl _, a, b, hn⟩
theorem f17_spec {h g : Heap} {n : Nat} {a a2 : Option Addr} {cp cp2 : Nat} (ls ms : List Lab) (hl : OwnRow encLab 40 g h (.slice a ls.length cp) ls) (hm : IsRow encLab h (.slice a2 ms.length cp2) ms) (hlen : ls.length < 9223372036854775808) :
    Makes Tryz.prog 17 [.slice a ls.length cp, .slice a2 ms.length cp2] h n (blkOf (.slice a ls.length cp)) (fun u _ _ => u = .bool (decide (ls = ms))) := by
  rcases hl with ⟨rfl, hv⟩ | ⟨b, cap, ci, hv, hb, h3, h4, h5, h6⟩
  · have e : blkOf (.slice a ([] : List Lab).length cp) = [] := by cases a <;> simp [blkOf]
    rw [e]
    exact f17_nil ms (.inl ⟨rfl, by
      rcases hv with hv | ⟨b, o, hv⟩
      · exact .inl hv
      · exact .inr ⟨b, o, 0, hv⟩⟩) hm
  · cases hv
    have e : blkOf (.slice (some ⟨b, 0, none⟩) ls.length cp) = [b] := by
      have : ls ≠ [] := List.ne_nil_of_length_pos h5.1
      simp [blkOf, this]
    rw [e]
    exact f17_row ls ms hb h5.2 hm hlen
theorem sub_len (s : ByteArray) (l u : Int) : (sub s l u).data.toList.length ≤ s.data.toList.length := by
  simp only [sub, sliceS]
  rw [List.length_take, List.length_drop]
  omega
abbrev strB (bs : List UInt8) : ByteArray := ⟨bs.toArray⟩
theorem strB_add (a b : List UInt8) : strB a ++ strB b = strB (a ++ b) := by
  apply ByteArray.ext
  simp [strB, ByteArray.data_append]
theorem strB_len (bs : List UInt8) : (strB bs).data.toList.length = bs.length := by simp
theorem add_len (a b : ByteArray) : (a ++ b).data.toList.length = a.data.toList.length + b.data.toList.length := by
  rw [ByteArray.data_append, Array.toList_append, List.length_append]
abbrev WRONG : Value := .iface 51 (.agg #[])
abbrev BCI : CI := ⟨72, 0, true⟩
theorem f69_spec {h : Heap} {n : Nat} (b : Bool) :
    Throws Tryz.prog 69 [.bool (b)] h n ([]) (fun v _ _ => v = undef ∧ b = true) (WRONG) (b = false) := by
  refine Throws.free fun hf => ?_
  have hs : SubBut h h ([]) := .refl _ _
  have hn : n ≤ n := Nat.le_refl _
  have hf0 := hf
  refine Throws.of_bodyV (args := [.bool (b)]) (vs := [.bool (b), undef, undef, undef, undef, undef]) Tryz.func69 rfl rfl ?_
  refine AWp.seq (AWp.rowV (l := _) pok ?_)
  refine sq.c (v := .bool (b)) rfl rfl rfl rfl ?_
  rcases Bool.eq_false_or_eq_true (b) with c_b | c_b
  · rw [c_b]
    refine sq.c (v := .bool false) rfl rfl rfl rfl ?_
    refine sq.e ?_
    refine AWp.condF rfl rfl ?_
    refine AWp.skip ?_
    refine ⟨rfl, [], rfl, .inl ⟨undef, rfl, hs, hn, ?_⟩⟩
    exact ⟨rfl, rfl⟩
  · rw [c_b]
    refine sq.c (v := .bool true) rfl rfl rfl rfl ?_
    refine sq.e ?_
    refine AWp.condT rfl rfl ?_
    refine AWp.rowV (l := _) pok ?_
    refine sq.c (v := .agg #[]) rfl rfl (by kernel_rfl) rfl ?_
    refine sq.c (v := .iface 51 (.agg #[])) rfl rfl (by kernel_rfl) rfl ?_
    refine sq.p rfl rfl rfl ?_
    refine ⟨rfl, .inr ⟨rfl, hs, hn, ?_⟩⟩
    rfl
theorem f81_nil {h : Heap} {n : Nat} {b : Nat} {v : Value} (hb : h.get b = some (.cells [.pointer none, v] true BCI)) :
    Makes Tryz.prog 81 [.pointer (some ⟨b, 0, none⟩)] h n ([b]) (fun u h2 _ => u = undef ∧ h2.get b = some (.cells [.pointer (some ⟨b, 0, none⟩), v] true BCI)) := by
  refine Makes.free fun hf => ?_
  have hs : SubBut h h ([b]) := .refl _ _
  have hn : n ≤ n := Nat.le_refl _
  have hf0 := hf
  refine Makes.of_bodyV (args := [.pointer (some ⟨b, 0, none⟩)]) (vs := [.pointer (some ⟨b, 0, none⟩), undef, undef, undef, undef, undef, undef, undef, undef, undef, undef, undef, undef, undef, undef, undef, undef, undef, undef, undef]) Tryz.func81 rfl rfl ?_
  refine AWp.seq (AWp.rowV (l := _) pok ?_)
  refine sq.c (v := .pointer (some ⟨b, 0, none⟩)) rfl rfl rfl rfl ?_
  refine sq.c (v := .pointer (some ⟨b, 0, none⟩)) rfl rfl rfl rfl ?_
  refine sq.c (v := .pointer (some ⟨b, 0, none⟩)) rfl rfl (by kernel_rfl) rfl ?_
  refine sq.c (v := .pointer none) rfl rfl (ld1 (P := Tryz.prog) (t := 70) (p := 0) (v := .pointer none) (by kernel_rfl) (by kernel_rfl) hb rfl) rfl ?_
  refine sq.c (v := .bool true) rfl rfl (by kernel_rfl) rfl ?_
  refine sq.e ?_
  refine AWp.condT rfl rfl ?_
  refine AWp.rowV (l := _) pok ?_
  refine sq.c (v := .pointer (some ⟨b, 0, none⟩)) rfl rfl rfl rfl ?_
  refine sq.c (v := .pointer (some ⟨b, 0, none⟩)) rfl rfl rfl rfl ?_
  refine sq.op rfl rfl (Does.convPtr hf (by rw [show Tryz.prog.underlying 70 = _ from Tryz.underlying70]; exact ⟨(fun e => by cases e), (fun _ e => by cases e)⟩) rfl (convPtr_to (t := 72) (k := 2) (by kernel_rfl) (by kernel_rfl) (by kernel_rfl) (by decide) hb (Nat.le_of_ble_eq_true rfl))) ?_
  rintro _ h1 n2 ⟨rfl, _⟩ s3 hn2 hf
  refine sq.w ?_
  have hb := s3.sub _ _ hb
  have hs := hs.trans (s3.mono (by simp))
  have hn := Nat.le_trans hn hn2
  refine sq.op rfl rfl (Does.same hf Tryz.func92 rfl (by kernel_rfl) rfl rfl) ?_
  rintro _ h4 n5 ⟨rfl, _⟩ s6 hn2 hf
  refine sq.w ?_
  have hb := s6.sub _ _ hb
  have hs := hs.trans (s6.mono (by simp))
  have hn := Nat.le_trans hn hn2
  refine sq.op rfl rfl (Does.convPtr hf (by rw [show Tryz.prog.underlying 107 = _ from Tryz.underlying107]; exact ⟨(fun e => by cases e), (fun _ e => by cases e)⟩) rfl (convPtr_from (t := 72) (by kernel_rfl) (by kernel_rfl) (by kernel_rfl) hb rfl (by kernel_rfl))) ?_
  rintro _ h7 n8 ⟨rfl, _⟩ s9 hn2 hf
  refine sq.w ?_
  have hb := s9.sub _ _ hb
  have hs := hs.trans (s9.mono (by simp))
  have hn := Nat.le_trans hn hn2
  refine sq.c (v := .pointer (some ⟨b, 0, none⟩)) rfl rfl rfl rfl ?_
  refine sq.c (v := .pointer (some ⟨b, 0, none⟩)) rfl rfl (by kernel_rfl) rfl ?_
  refine sq.op rfl rfl (Does.store (k := 1) (xs := [.pointer (some ⟨b, 0, none⟩)]) (cs' := [.pointer (some ⟨b, 0, none⟩), v]) hf (by kernel_rfl) rfl rfl rfl hb rfl rfl (Nat.le_of_ble_eq_true rfl) rfl) ?_
  rintro _ h11 n12 ⟨rfl, hb10⟩ s13 hn2 hf
  refine sq.w0 ?_
  have hs := hs.at (by simp) s13
  have hn := Nat.le_trans hn hn2
  refine sq.e ?_
  refine ⟨rfl, [], rfl, undef, rfl, hs, hn, ?_⟩
  exact ⟨rfl, hb10⟩
theorem f81_own {h : Heap} {n : Nat} {b : Nat} {v : Value} (hb : h.get b = some (.cells [.pointer (some ⟨b, 0, none⟩), v] true BCI)) :
    Makes Tryz.prog 81 [.pointer (some ⟨b, 0, none⟩)] h n ([b]) (fun u h2 _ => u = undef ∧ h2.get b = some (.cells [.pointer (some ⟨b, 0, none⟩), v] true BCI)) := by
  refine Makes.free fun hf => ?_
  have hs : SubBut h h ([b]) := .refl _ _
  have hn : n ≤ n := Nat.le_refl _
  have hf0 := hf
  refine Makes.of_bodyV (args := [.pointer (some ⟨b, 0, none⟩)]) (vs := [.pointer (some ⟨b, 0, none⟩), undef, undef, undef, undef, undef, undef, undef, undef, undef, undef, undef, undef, undef, undef, undef, undef, undef, undef, undef]) Tryz.func81 rfl rfl ?_
  refine AWp.seq (AWp.rowV (l := _) pok ?_)
  refine sq.c (v := .pointer (some ⟨b, 0, none⟩)) rfl rfl rfl rfl ?_
  refine sq.c (v := .pointer (some ⟨b, 0, none⟩)) rfl rfl rfl rfl ?_
  refine sq.c (v := .pointer (some ⟨b, 0, none⟩)) rfl rfl (by kernel_rfl) rfl ?_
  refine sq.c (v := .pointer (some ⟨b, 0, none⟩)) rfl rfl (ld1 (P := Tryz.prog) (t := 70) (p := 0) (v := .pointer (some ⟨b, 0, none⟩)) (by kernel_rfl) (by kernel_rfl) hb rfl) rfl ?_
  refine sq.c (v := .bool false) rfl rfl (by kernel_rfl) rfl ?_
  refine sq.e ?_
  refine AWp.condF rfl rfl ?_
  refine AWp.seq (AWp.rowV (l := _) pok ?_)
  refine sq.c (v := .pointer (some ⟨b, 0, none⟩)) rfl rfl rfl rfl ?_
  refine sq.c (v := .pointer (some ⟨b, 0, none⟩)) rfl rfl rfl rfl ?_
  refine sq.c (v := .pointer (some ⟨b, 0, none⟩)) rfl rfl (by kernel_rfl) rfl ?_
  refine sq.c (v := .pointer (some ⟨b, 0, none⟩)) rfl rfl (ld1 (P := Tryz.prog) (t := 70) (p := 0) (v := .pointer (some ⟨b, 0, none⟩)) (by kernel_rfl) (by kernel_rfl) hb rfl) rfl ?_
  refine sq.c (v := .pointer (some ⟨b, 0, none⟩)) rfl rfl rfl rfl ?_
  refine sq.c (v := .bool false) rfl rfl (ptr_neq_self (e := 72) (k := 2) (by kernel_rfl) (by kernel_rfl) (by decide)) rfl ?_
  refine sq.e ?_
  refine AWp.condF rfl rfl ?_
  refine AWp.skip ?_
  refine ⟨rfl, [], rfl, undef, rfl, hs, hn, ?_⟩
  exact ⟨rfl, hb⟩
def PA (pa : Value) (b : Nat) : Prop := pa = .pointer none ∨ pa = .pointer (some ⟨b, 0, none⟩)
theorem f81_spec {h : Heap} {n b : Nat} {pa v : Value} (hb : h.get b = some (.cells [pa, v] true BCI)) (hpa : PA pa b) :
    Makes Tryz.prog 81 [.pointer (some ⟨b, 0, none⟩)] h n [b] fun u h2 _ => u = undef ∧ h2.get b = some (.cells [.pointer (some ⟨b, 0, none⟩), v] true BCI) := by
  rcases hpa with rfl | rfl
  · exact f81_nil hb
  · exact f81_own hb
def BAfter (h2 : Heap) (b : Nat) (v0 : Value) (n : Nat) (bs : List UInt8) : Prop :=
  ∃ (a2 : Option Addr) (cp2 : Nat), h2.get b = some (.cells [.pointer (some ⟨b, 0, none⟩), .slice a2 bs.length cp2] true BCI) ∧ OwnRow encByte 5 (Trie.nil : Heap) h2 (.slice a2 bs.length cp2) bs ∧
    (∀ c ∈ blkOf (.slice a2 bs.length cp2), c ∈ blkOf v0 ∨ n ≤ c) ∧ ∀ c ∈ blkOf (.slice a2 bs.length cp2), c ≠ b
theorem ofInt8 (n : Nat) : BitVec.ofInt 8 (n : Int) = BitVec.ofNat 8 n := by simp
theorem or_u8 {a b : Nat} (ha : a < 256) (hb : b < 256) {c : Bool} : binE Tryz.prog .or 5 c false (.int .u8 a) (.int .u8 b) = some (.int .u8 ((a ||| b : Nat) : Int)) := by
  have e : (BitVec.ofInt IntKind.u8.bits (a : Int) ||| BitVec.ofInt IntKind.u8.bits (b : Int)).toNat = a ||| b := by
    show (BitVec.ofInt 8 (a : Int) ||| BitVec.ofInt 8 (b : Int)).toNat = _
    rw [ofInt8, ofInt8, BitVec.toNat_or, BitVec.toNat_ofNat, BitVec.toNat_ofNat, Nat.mod_eq_of_lt ha, Nat.mod_eq_of_lt hb]
  have hlt : a ||| b < 256 := Nat.or_lt_two_pow (n := 8) ha hb
  show some (Value.int .u8 (IntKind.u8.wrap _)) = _
  rw [e, wrap_u8 (by omega) (by omega)]
theorem and_u8 {a b : Nat} (ha : a < 256) (hb : b < 256) {c : Bool} : binE Tryz.prog .and 5 false c (.int .u8 a) (.int .u8 b) = some (.int .u8 ((a &&& b : Nat) : Int)) := by
  have e : (BitVec.ofInt IntKind.u8.bits (a : Int) &&& BitVec.ofInt IntKind.u8.bits (b : Int)).toNat = a &&& b := by
    show (BitVec.ofInt 8 (a : Int) &&& BitVec.ofInt 8 (b : Int)).toNat = _
    rw [ofInt8, ofInt8, BitVec.toNat_and, BitVec.toNat_ofNat, BitVec.toNat_ofNat, Nat.mod_eq_of_lt ha, Nat.mod_eq_of_lt hb]
  have hlt : a &&& b < 256 := Nat.lt_of_le_of_lt Nat.and_le_left ha
  show some (Value.int .u8 (IntKind.u8.wrap _)) = _
  rw [e, wrap_u8 (by omega) (by omega)]
theorem and63 : ∀ x, x < 256 → x &&& 63 = x % 64 := by decide +kernel
theorem or128' : ∀ x, x < 64 → 128 ||| x = 128 + x := by decide +kernel
theorem or192 : ∀ x, x < 32 → 192 ||| x = 192 + x := by decide +kernel
theorem or224 : ∀ x, x < 16 → 224 ||| x = 224 + x := by decide +kernel
theorem or240 : ∀ x, x < 8 → 240 ||| x = 240 + x := by decide +kernel
theorem lo8_int {x : Int} (h0 : 0 ≤ x) (h1 : x < 256) : ((lo8 x).toNat : Int) = x := by
  unfold lo8
  rw [UInt8.toNat_ofNat']
  omega
theorem or_lead {k m : Nat} (hk : ∀ x, x < m → k ||| x = k + x) (hkm : k + m ≤ 256) {x : Int} (h0 : 0 ≤ x) (h1 : x < m) {c : Bool} : binE Tryz.prog .or 5 c false (.int .u8 (k : Int)) (.int .u8 x) = some (.int .u8 ((lo8 ((k : Int) + x)).toNat : Int)) := by
  obtain ⟨y, rfl⟩ : ∃ y : Nat, x = y := ⟨x.toNat, by omega⟩
  rw [or_u8 (by omega) (by omega), hk _ (by omega), lo8_int (by omega) (by omega)]
  rfl
theorem and_low {x : Int} (h0 : 0 ≤ x) {c : Bool} : binE Tryz.prog .and 5 false c (.int .u8 (IntKind.u8.wrap x)) (.int .u8 63) = some (.int .u8 (x % 64)) := by
  have e : IntKind.u8.wrap x = ((x % 256).toNat : Int) := by simp [IntKind.wrap, IntKind.bits, IntKind.signed]; omega
  rw [e, show (63 : Int) = ((63 : Nat) : Int) from rfl, and_u8 (by omega) (by omega), and63 _ (by omega)]
  congr 2
  omega
abbrev encR (r : Int) : List UInt8 := Lib.encodeRune r
theorem enc1 {r : Int} (h0 : 0 ≤ r) (h1 : r ≤ 127) : encR r = [lo8 r] := by unfold encR Lib.encodeRune; rw [Lib.encodeRuneZ_one h0 h1]; rfl
theorem enc2 {r : Int} (h0 : 128 ≤ r) (h1 : r ≤ 2047) : encR r = [lo8 (192 + r / 64), lo8 (128 + r % 64)] := by unfold encR Lib.encodeRune; rw [Lib.encodeRuneZ_two h0 h1]; rfl
theorem enc3 {r : Int} (h : (2048 ≤ r ∧ r < 55296) ∨ (57343 < r ∧ r ≤ 65535)) : encR r = [lo8 (224 + r / 4096), lo8 (128 + r / 64 % 64), lo8 (128 + r % 64)] := by unfold encR Lib.encodeRune; rw [Lib.encodeRuneZ_three h]; rfl
theorem enc4 {r : Int} (h0 : 65536 ≤ r) (h1 : r ≤ 1114111) : encR r = [lo8 (240 + r / 262144), lo8 (128 + r / 4096 % 64), lo8 (128 + r / 64 % 64), lo8 (128 + r % 64)] := by unfold encR Lib.encodeRune; rw [Lib.encodeRuneZ_four h0 h1]; rfl
theorem enc_len (r : Int) : 1 ≤ (encR r).length ∧ (encR r).length ≤ 4 := by
  unfold encR Lib.encodeRune
  rw [List.length_map]
  exact Lib.encodeRuneZ_length r
def isR (r : Int) : Prop := 0 ≤ r ∧ r ≤ 1114111 ∧ ¬ (55296 ≤ r ∧ r ≤ 57343)
theorem f93_spec {h : Heap} {n : Nat} {a : Option Addr} {cp : Nat} (bs : List UInt8) (r : Int) (R_b : OwnRow encByte 5 (Trie.nil : Heap) h (.slice a bs.length cp) bs) (hr : isR r) (h127 : 127 < r) (hlb : bs.length < 1000000000000) :
    Makes Tryz.prog 93 [.slice a (bs.length) cp, .int .i32 (r)] h n ((blkOf (.slice a bs.length cp))) (fun v h2 _ => OwnRow encByte 5 (Trie.nil : Heap) h2 v (bs ++ encR r) ∧ ∀ c ∈ blkOf v, c ∈ blkOf (.slice a bs.length cp) ∨ n ≤ c) := by
  refine Makes.free fun hf => ?_
  have B_b : ∀ c ∈ blkOf (.slice a bs.length cp), c ∈ blkOf (.slice a bs.length cp) ∨ n ≤ c := fun c hc => .inl hc
  obtain ⟨hr0, hr1, hr2⟩ := hr
  have hen := enc_len r
  have hs : SubBut h h ((blkOf (.slice a bs.length cp))) := .refl _ _
  have hn : n ≤ n := Nat.le_refl _
  have hf0 := hf
  refine Makes.of_bodyV (args := [.slice a (bs.length) cp, .int .i32 (r)]) (vs := [.slice a (bs.length) cp, .int .i32 (r), undef, undef, undef, undef, undef, undef, undef, undef, undef, undef, undef, undef, undef, undef, undef, undef, undef, undef, undef, undef, undef, undef, undef, undef, undef, undef, undef, undef, undef, undef, undef, undef, undef, undef, undef, undef, undef, undef, undef, undef, undef, undef, undef, undef, undef, undef, undef, undef, undef, undef, undef, undef, undef, undef, undef, undef, undef, undef, undef, undef, undef, undef, undef, undef, undef, undef, undef, undef, undef, undef, undef, undef, undef, undef, undef, undef]) Tryz.func93 rfl rfl ?_
  refine AWp.seq (AWp.rowV (l := _) pok ?_)
  refine sq.c (v := .slice none (0) (0)) rfl rfl rfl rfl ?_
  refine sq.e (AWp.seq (AWp.rowV (l := _) pok ?_))
  refine sq.c (v := .int .i32 (r)) rfl rfl rfl rfl ?_
  refine sq.c (v := .int .u32 (r)) rfl rfl (Eq.trans (b := some (.int .u32 (IntKind.u32.wrap (r)))) (by kernel_rfl) (okI (wrap_u32 (by omega) (by omega)))) rfl ?_
  refine sq.c (v := .int .u32 (r)) rfl rfl rfl rfl ?_
  refine sq.e (AWp.block (AWp.seq (AWp.rowV (l := _) pok ?_)))
  refine sq.c (v := .int .u32 (r)) rfl rfl rfl rfl ?_
  refine sq.c (v := .bool (decide (r ≤ (2047 : Int)))) rfl rfl rfl rfl ?_
  refine sq.c (v := .bool (decide (r ≤ (2047 : Int)))) rfl rfl rfl rfl ?_
  refine sq.e ?_
  by_cases c3_1 : r ≤ (2047 : Int)
  · rw [decide_eq_true c3_1]
    refine AWp.condT rfl rfl ?_
    refine AWp.seq (AWp.rowV (l := _) pok ?_)
    refine sq.c (v := .slice a (bs.length) cp) rfl rfl rfl rfl ?_
    refine sq.c (v := .int .i32 (r)) rfl rfl rfl rfl ?_
    refine sq.c (v := .int .i32 (r / 64)) rfl rfl (okI (shr_lit (by rfl) (by decide))) rfl ?_
    refine sq.c (v := .int .u8 (r / 64)) rfl rfl (Eq.trans (b := some (.int .u8 (IntKind.u8.wrap (r / 64)))) (by kernel_rfl) (okI (wrap_u8 (by omega) (by omega)))) rfl ?_
    refine sq.c (v := .int .u8 (((lo8 (192 + r / 64)).toNat : Int))) rfl rfl (or_lead (c := true) (k := 192) (m := 32) or192 (by decide) (by omega) (by omega)) rfl ?_
    refine sq.c (v := .int .i32 (r)) rfl rfl rfl rfl ?_
    refine sq.c (v := .int .u8 (IntKind.u8.wrap (r))) rfl rfl (by kernel_rfl) rfl ?_
    refine sq.c (v := .int .u8 (r % 64)) rfl rfl (and_low (c := true) (x := r) (by omega)) rfl ?_
    refine sq.c (v := .int .u8 (((lo8 (128 + r % 64)).toNat : Int))) rfl rfl (or_lead (c := true) (k := 128) (m := 64) or128' (by decide) (by omega) (by omega)) rfl ?_
    have d_b_n : ∀ c ∈ blkOf (.slice a (bs.length) cp), c ≠ n := fun c hc e => R_b.ne' (hf _ (Nat.le_refl _)) c hc (List.mem_singleton.2 e)
    have z_n : h.get n = none := hf0 _ hn
    refine sq.op rfl rfl (Does.build (e := 5) (cs := [.int .u8 (((lo8 (192 + r / 64)).toNat : Int)), .int .u8 (((lo8 (128 + r % 64)).toNat : Int))]) hf (fun _ _ => by kernel_rfl)) ?_
    rintro _ h2 n3 ⟨rfl, hb1⟩ s4 hn2 hf
    refine sq.w ?_
    have R_b := R_b.keep s4
    have hs := hs.trans (s4.mono (by simp))
    have hn := Nat.le_trans hn hn2
    have hfo := hf
    refine sq.op rfl rfl (Does.append (E := encByte) (xs := bs) (ys := [lo8 (192 + r / 64), lo8 (128 + r % 64)]) appByte ⟨.slice 5, by kernel_rfl, fun _ q => by cases q⟩ hf (nil_sub h2 []) R_b (IsRow.of (E := encByte) (xs := [lo8 (192 + r / 64), lo8 (128 + r % 64)]) (cap := 2) hb1 (Nat.le_refl _)) rfl rfl (by simp only [List.length_cons, List.length_nil]; omega) (by simp only [List.length_cons, List.length_nil]; omega) rfl) ?_
    rintro v8 h5 n6 ⟨R_b, _, hB9⟩ s7 hn2 hf
    have hs := hs.own B_b hf0 s7
    have B_b : ∀ c ∈ blkOf v8, c ∈ (blkOf (.slice a bs.length cp)) ∨ n ≤ c := fun c hc => (hB9 c hc).elim (B_b c) (fun q => .inr (q ▸ hn))
    refine sq.w ?_
    have dn_b_n : ∀ c ∈ blkOf v8, c ≠ n := fun c hc => (hB9 c hc).elim (fun q => d_b_n c q) (fun q => by rw [q]; exact (hfo.ne hb1).symm)
    have hb1 := s7 _ _ (fun hm => d_b_n _ hm rfl) hb1
    have d_b_n := dn_b_n
    obtain ⟨a10, cp11, rfl⟩ := R_b.slice
    have hn := Nat.le_trans hn hn2
    refine sq.c (v := .slice a10 (bs ++ [lo8 (192 + r / 64), lo8 (128 + r % 64)]).length cp11) rfl rfl rfl rfl ?_
    refine sq.e ?_
    refine AWp.ret ?_
    refine ⟨rfl, [.slice a10 (bs ++ [lo8 (192 + r / 64), lo8 (128 + r % 64)]).length cp11], rfl, .slice a10 (bs ++ [lo8 (192 + r / 64), lo8 (128 + r % 64)]).length cp11, rfl, hs, hn, ?_⟩
    rw [enc2 (by omega) (by omega)]
    exact ⟨R_b, B_b⟩
  · rw [decide_eq_false c3_1]
    refine AWp.condF rfl rfl ?_
    refine AWp.seq (AWp.seq (AWp.rowV (l := _) pok ?_))
    refine sq.c (v := .int .u32 (r)) rfl rfl rfl rfl ?_
    refine sq.c (v := .bool (decide (r < (55296 : Int)))) rfl rfl rfl rfl ?_
    refine sq.c (v := .bool (decide (r < (55296 : Int)))) rfl rfl rfl rfl ?_
    refine sq.e ?_
    by_cases c5_1 : r < (55296 : Int)
    · rw [decide_eq_true c5_1]
      refine AWp.condT rfl rfl ?_
      refine AWp.skip ?_
      refine AWp.condT rfl rfl ?_
      refine AWp.seq (AWp.rowV (l := _) pok ?_)
      refine sq.c (v := .slice a (bs.length) cp) rfl rfl rfl rfl ?_
      refine sq.c (v := .int .i32 (r)) rfl rfl rfl rfl ?_
      refine sq.c (v := .int .i32 (r / 4096)) rfl rfl (okI (shr_lit (by rfl) (by decide))) rfl ?_
      refine sq.c (v := .int .u8 (r / 4096)) rfl rfl (Eq.trans (b := some (.int .u8 (IntKind.u8.wrap (r / 4096)))) (by kernel_rfl) (okI (wrap_u8 (by omega) (by omega)))) rfl ?_
      refine sq.c (v := .int .u8 (((lo8 (224 + r / 4096)).toNat : Int))) rfl rfl (or_lead (c := true) (k := 224) (m := 16) or224 (by decide) (by omega) (by omega)) rfl ?_
      refine sq.c (v := .int .i32 (r)) rfl rfl rfl rfl ?_
      refine sq.c (v := .int .i32 (r / 64)) rfl rfl (okI (shr_lit (by rfl) (by decide))) rfl ?_
      refine sq.c (v := .int .u8 (IntKind.u8.wrap (r / 64))) rfl rfl (by kernel_rfl) rfl ?_
      refine sq.c (v := .int .u8 (r / 64 % 64)) rfl rfl (and_low (c := true) (x := r / 64) (by omega)) rfl ?_
      refine sq.c (v := .int .u8 (((lo8 (128 + r / 64 % 64)).toNat : Int))) rfl rfl (or_lead (c := true) (k := 128) (m := 64) or128' (by decide) (by omega) (by omega)) rfl ?_
      refine sq.c (v := .int .i32 (r)) rfl rfl rfl rfl ?_
      refine sq.c (v := .int .u8 (IntKind.u8.wrap (r))) rfl rfl (by kernel_rfl) rfl ?_
      refine sq.c (v := .int .u8 (r % 64)) rfl rfl (and_low (c := true) (x := r) (by omega)) rfl ?_
      refine sq.c (v := .int .u8 (((lo8 (128 + r % 64)).toNat : Int))) rfl rfl (or_lead (c := true) (k := 128) (m := 64) or128' (by decide) (by omega) (by omega)) rfl ?_
      have d_b_n : ∀ c ∈ blkOf (.slice a (bs.length) cp), c ≠ n := fun c hc e => R_b.ne' (hf _ (Nat.le_refl _)) c hc (List.mem_singleton.2 e)
      have z_n : h.get n = none := hf0 _ hn
      refine sq.op rfl rfl (Does.build (e := 5) (cs := [.int .u8 (((lo8 (224 + r / 4096)).toNat : Int)), .int .u8 (((lo8 (128 + r / 64 % 64)).toNat : Int)), .int .u8 (((lo8 (128 + r % 64)).toNat : Int))]) hf (fun _ _ => by kernel_rfl)) ?_
      rintro _ h13 n14 ⟨rfl, hb12⟩ s15 hn2 hf
      refine sq.w ?_
      have R_b := R_b.keep s15
      have hs := hs.trans (s15.mono (by simp))
      have hn := Nat.le_trans hn hn2
      have hfo := hf
      refine sq.op rfl rfl (Does.append (E := encByte) (xs := bs) (ys := [lo8 (224 + r / 4096), lo8 (128 + r / 64 % 64), lo8 (128 + r % 64)]) appByte ⟨.slice 5, by kernel_rfl, fun _ q => by cases q⟩ hf (nil_sub h13 []) R_b (IsRow.of (E := encByte) (xs := [lo8 (224 + r / 4096), lo8 (128 + r / 64 % 64), lo8 (128 + r % 64)]) (cap := 3) hb12 (Nat.le_refl _)) rfl rfl (by simp only [List.length_cons, List.length_nil]; omega) (by simp only [List.length_cons, List.length_nil]; omega) rfl) ?_
      rintro v19 h16 n17 ⟨R_b, _, hB20⟩ s18 hn2 hf
      have hs := hs.own B_b hf0 s18
      have B_b : ∀ c ∈ blkOf v19, c ∈ (blkOf (.slice a bs.length cp)) ∨ n ≤ c := fun c hc => (hB20 c hc).elim (B_b c) (fun q => .inr (q ▸ hn))
      refine sq.w ?_
      have dn_b_n : ∀ c ∈ blkOf v19, c ≠ n := fun c hc => (hB20 c hc).elim (fun q => d_b_n c q) (fun q => by rw [q]; exact (hfo.ne hb12).symm)
      have hb12 := s18 _ _ (fun hm => d_b_n _ hm rfl) hb12
      have d_b_n := dn_b_n
      obtain ⟨a21, cp22, rfl⟩ := R_b.slice
      have hn := Nat.le_trans hn hn2
      refine sq.c (v := .slice a21 (bs ++ [lo8 (224 + r / 4096), lo8 (128 + r / 64 % 64), lo8 (128 + r % 64)]).length cp22) rfl rfl rfl rfl ?_
      refine sq.e ?_
      refine AWp.ret ?_
      refine ⟨rfl, [.slice a21 (bs ++ [lo8 (224 + r / 4096), lo8 (128 + r / 64 % 64), lo8 (128 + r % 64)]).length cp22], rfl, .slice a21 (bs ++ [lo8 (224 + r / 4096), lo8 (128 + r / 64 % 64), lo8 (128 + r % 64)]).length cp22, rfl, hs, hn, ?_⟩
      rw [enc3 (by omega)]
      exact ⟨R_b, B_b⟩
    · rw [decide_eq_false c5_1]
      refine AWp.condF rfl rfl ?_
      refine AWp.rowV (l := _) pok ?_
      refine sq.c (v := .int .u32 (r)) rfl rfl rfl rfl ?_
      refine sq.c (v := .bool (decide ((57343 : Int) < r))) rfl rfl rfl rfl ?_
      refine sq.c (v := .bool (decide ((57343 : Int) < r))) rfl rfl rfl rfl ?_
      by_cases c6_1 : (57343 : Int) < r
      · rw [decide_eq_true c6_1]
        refine sq.c (v := .int .u32 (r)) (wantT (g := 2) (d := 30) rfl rfl rfl) rfl rfl rfl ?_
        refine sq.c (v := .bool (decide (r ≤ (65535 : Int)))) (wantT (g := 2) (d := 30) rfl rfl rfl) rfl rfl rfl ?_
        refine sq.c (v := .bool (decide (r ≤ (65535 : Int)))) rfl rfl rfl rfl ?_
        refine sq.c (v := .bool (decide (r ≤ (65535 : Int)))) rfl rfl rfl rfl ?_
        refine sq.e ?_
        by_cases c6_4 : r ≤ (65535 : Int)
        · rw [decide_eq_true c6_4]
          refine AWp.condT rfl rfl ?_
          refine AWp.seq (AWp.rowV (l := _) pok ?_)
          refine sq.c (v := .slice a (bs.length) cp) rfl rfl rfl rfl ?_
          refine sq.c (v := .int .i32 (r)) rfl rfl rfl rfl ?_
          refine sq.c (v := .int .i32 (r / 4096)) rfl rfl (okI (shr_lit (by rfl) (by decide))) rfl ?_
          refine sq.c (v := .int .u8 (r / 4096)) rfl rfl (Eq.trans (b := some (.int .u8 (IntKind.u8.wrap (r / 4096)))) (by kernel_rfl) (okI (wrap_u8 (by omega) (by omega)))) rfl ?_
          refine sq.c (v := .int .u8 (((lo8 (224 + r / 4096)).toNat : Int))) rfl rfl (or_lead (c := true) (k := 224) (m := 16) or224 (by decide) (by omega) (by omega)) rfl ?_
          refine sq.c (v := .int .i32 (r)) rfl rfl rfl rfl ?_
          refine sq.c (v := .int .i32 (r / 64)) rfl rfl (okI (shr_lit (by rfl) (by decide))) rfl ?_
          refine sq.c (v := .int .u8 (IntKind.u8.wrap (r / 64))) rfl rfl (by kernel_rfl) rfl ?_
          refine sq.c (v := .int .u8 (r / 64 % 64)) rfl rfl (and_low (c := true) (x := r / 64) (by omega)) rfl ?_
          refine sq.c (v := .int .u8 (((lo8 (128 + r / 64 % 64)).toNat : Int))) rfl rfl (or_lead (c := true) (k := 128) (m := 64) or128' (by decide) (by omega) (by omega)) rfl ?_
          refine sq.c (v := .int .i32 (r)) rfl rfl rfl rfl ?_
          refine sq.c (v := .int .u8 (IntKind.u8.wrap (r))) rfl rfl (by kernel_rfl) rfl ?_
          refine sq.c (v := .int .u8 (r % 64)) rfl rfl (and_low (c := true) (x := r) (by omega)) rfl ?_
          refine sq.c (v := .int .u8 (((lo8 (128 + r % 64)).toNat : Int))) rfl rfl (or_lead (c := true) (k := 128) (m := 64) or128' (by decide) (by omega) (by omega)) rfl ?_
          have d_b_n : ∀ c ∈ blkOf (.slice a (bs.length) cp), c ≠ n := fun c hc e => R_b.ne' (hf _ (Nat.le_refl _)) c hc (List.mem_singleton.2 e)
          have z_n : h.get n = none := hf0 _ hn
          refine sq.op rfl rfl (Does.build (e := 5) (cs := [.int .u8 (((lo8 (224 + r / 4096)).toNat : Int)), .int .u8 (((lo8 (128 + r / 64 % 64)).toNat : Int)), .int .u8 (((lo8 (128 + r % 64)).toNat : Int))]) hf (fun _ _ => by kernel_rfl)) ?_
          rintro _ h24 n25 ⟨rfl, hb23⟩ s26 hn2 hf
          refine sq.w ?_
          have R_b := R_b.keep s26
          have hs := hs.trans (s26.mono (by simp))
          have hn := Nat.le_trans hn hn2
          have hfo := hf
          refine sq.op rfl rfl (Does.append (E := encByte) (xs := bs) (ys := [lo8 (224 + r / 4096), lo8 (128 + r / 64 % 64), lo8 (128 + r % 64)]) appByte ⟨.slice 5, by kernel_rfl, fun _ q => by cases q⟩ hf (nil_sub h24 []) R_b (IsRow.of (E := encByte) (xs := [lo8 (224 + r / 4096), lo8 (128 + r / 64 % 64), lo8 (128 + r % 64)]) (cap := 3) hb23 (Nat.le_refl _)) rfl rfl (by simp only [List.length_cons, List.length_nil]; omega) (by simp only [List.length_cons, List.length_nil]; omega) rfl) ?_
          rintro v30 h27 n28 ⟨R_b, _, hB31⟩ s29 hn2 hf
          have hs := hs.own B_b hf0 s29
          have B_b : ∀ c ∈ blkOf v30, c ∈ (blkOf (.slice a bs.length cp)) ∨ n ≤ c := fun c hc => (hB31 c hc).elim (B_b c) (fun q => .inr (q ▸ hn))
          refine sq.w ?_
          have dn_b_n : ∀ c ∈ blkOf v30, c ≠ n := fun c hc => (hB31 c hc).elim (fun q => d_b_n c q) (fun q => by rw [q]; exact (hfo.ne hb23).symm)
          have hb23 := s29 _ _ (fun hm => d_b_n _ hm rfl) hb23
          have d_b_n := dn_b_n
          obtain ⟨a32, cp33, rfl⟩ := R_b.slice
          have hn := Nat.le_trans hn hn2
          refine sq.c (v := .slice a32 (bs ++ [lo8 (224 + r / 4096), lo8 (128 + r / 64 % 64), lo8 (128 + r % 64)]).length cp33) rfl rfl rfl rfl ?_
          refine sq.e ?_
          refine AWp.ret ?_
          refine ⟨rfl, [.slice a32 (bs ++ [lo8 (224 + r / 4096), lo8 (128 + r / 64 % 64), lo8 (128 + r % 64)]).length cp33], rfl, .slice a32 (bs ++ [lo8 (224 + r / 4096), lo8 (128 + r / 64 % 64), lo8 (128 + r % 64)]).length cp33, rfl, hs, hn, ?_⟩
          rw [enc3 (by omega)]
          exact ⟨R_b, B_b⟩
        · rw [decide_eq_false c6_4]
          refine AWp.condF rfl rfl ?_
          refine AWp.seq (AWp.rowV (l := _) pok ?_)
          refine sq.c (v := .int .u32 (r)) rfl rfl rfl rfl ?_
          refine sq.c (v := .bool (decide ((65535 : Int) < r))) rfl rfl rfl rfl ?_
          refine sq.c (v := .bool (decide ((65535 : Int) < r))) rfl rfl rfl rfl ?_
          by_cases c8_1 : (65535 : Int) < r
          · rw [decide_eq_true c8_1]
            refine sq.c (v := .int .u32 (r)) (wantT (g := 2) (d := 53) rfl rfl rfl) rfl rfl rfl ?_
            refine sq.c (v := .bool (decide (r ≤ (1114111 : Int)))) (wantT (g := 2) (d := 53) rfl rfl rfl) rfl rfl rfl ?_
            refine sq.c (v := .bool (decide (r ≤ (1114111 : Int)))) rfl rfl rfl rfl ?_
            refine sq.c (v := .bool (decide (r ≤ (1114111 : Int)))) rfl rfl rfl rfl ?_
            refine sq.e ?_
            by_cases c8_4 : r ≤ (1114111 : Int)
            · rw [decide_eq_true c8_4]
              refine AWp.condT rfl rfl ?_
              refine AWp.seq (AWp.rowV (l := _) pok ?_)
              refine sq.c (v := .slice a (bs.length) cp) rfl rfl rfl rfl ?_
              refine sq.c (v := .int .i32 (r)) rfl rfl rfl rfl ?_
              refine sq.c (v := .int .i32 (r / 262144)) rfl rfl (okI (shr_lit (by rfl) (by decide))) rfl ?_
              refine sq.c (v := .int .u8 (r / 262144)) rfl rfl (Eq.trans (b := some (.int .u8 (IntKind.u8.wrap (r / 262144)))) (by kernel_rfl) (okI (wrap_u8 (by omega) (by omega)))) rfl ?_
              refine sq.c (v := .int .u8 (((lo8 (240 + r / 262144)).toNat : Int))) rfl rfl (or_lead (c := true) (k := 240) (m := 8) or240 (by decide) (by omega) (by omega)) rfl ?_
              refine sq.c (v := .int .i32 (r)) rfl rfl rfl rfl ?_
              refine sq.c (v := .int .i32 (r / 4096)) rfl rfl (okI (shr_lit (by rfl) (by decide))) rfl ?_
              refine sq.c (v := .int .u8 (IntKind.u8.wrap (r / 4096))) rfl rfl (by kernel_rfl) rfl ?_
              refine sq.c (v := .int .u8 (r / 4096 % 64)) rfl rfl (and_low (c := true) (x := r / 4096) (by omega)) rfl ?_
              refine sq.c (v := .int .u8 (((lo8 (128 + r / 4096 % 64)).toNat : Int))) rfl rfl (or_lead (c := true) (k := 128) (m := 64) or128' (by decide) (by omega) (by omega)) rfl ?_
              refine sq.c (v := .int .i32 (r)) rfl rfl rfl rfl ?_
              refine sq.c (v := .int .i32 (r / 64)) rfl rfl (okI (shr_lit (by rfl) (by decide))) rfl ?_
              refine sq.c (v := .int .u8 (IntKind.u8.wrap (r / 64))) rfl rfl (by kernel_rfl) rfl ?_
              refine sq.c (v := .int .u8 (r / 64 % 64)) rfl rfl (and_low (c := true) (x := r / 64) (by omega)) rfl ?_
              refine sq.c (v := .int .u8 (((lo8 (128 + r / 64 % 64)).toNat : Int))) rfl rfl (or_lead (c := true) (k := 128) (m := 64) or128' (by decide) (by omega) (by omega)) rfl ?_
              refine sq.c (v := .int .i32 (r)) rfl rfl rfl rfl ?_
              refine sq.c (v := .int .u8 (IntKind.u8.wrap (r))) rfl rfl (by kernel_rfl) rfl ?_
              refine sq.c (v := .int .u8 (r % 64)) rfl rfl (and_low (c := true) (x := r) (by omega)) rfl ?_
              refine sq.c (v := .int .u8 (((lo8 (128 + r % 64)).toNat : Int))) rfl rfl (or_lead (c := true) (k := 128) (m := 64) or128' (by decide) (by omega) (by omega)) rfl ?_
              have d_b_n : ∀ c ∈ blkOf (.slice a (bs.length) cp), c ≠ n := fun c hc e => R_b.ne' (hf _ (Nat.le_refl _)) c hc (List.mem_singleton.2 e)
              have z_n : h.get n = none := hf0 _ hn
              refine sq.op rfl rfl (Does.build (e := 5) (cs := [.int .u8 (((lo8 (240 + r / 262144)).toNat : Int)), .int .u8 (((lo8 (128 + r / 4096 % 64)).toNat : Int)), .int .u8 (((lo8 (128 + r / 64 % 64)).toNat : Int)), .int .u8 (((lo8 (128 + r % 64)).toNat : Int))]) hf (fun _ _ => by kernel_rfl)) ?_
              rintro _ h35 n36 ⟨rfl, hb34⟩ s37 hn2 hf
              refine sq.w ?_
              have R_b := R_b.keep s37
              have hs := hs.trans (s37.mono (by simp))
              have hn := Nat.le_trans hn hn2
              have hfo := hf
              refine sq.op rfl rfl (Does.append (E := encByte) (xs := bs) (ys := [lo8 (240 + r / 262144), lo8 (128 + r / 4096 % 64), lo8 (128 + r / 64 % 64), lo8 (128 + r % 64)]) appByte ⟨.slice 5, by kernel_rfl, fun _ q => by cases q⟩ hf (nil_sub h35 []) R_b (IsRow.of (E := encByte) (xs := [lo8 (240 + r / 262144), lo8 (128 + r / 4096 % 64), lo8 (128 + r / 64 % 64), lo8 (128 + r % 64)]) (cap := 4) hb34 (Nat.le_refl _)) rfl rfl (by simp only [List.length_cons, List.length_nil]; omega) (by simp only [List.length_cons, List.length_nil]; omega) rfl) ?_
              rintro v41 h38 n39 ⟨R_b, _, hB42⟩ s40 hn2 hf
              have hs := hs.own B_b hf0 s40
              have B_b : ∀ c ∈ blkOf v41, c ∈ (blkOf (.slice a bs.length cp)) ∨ n ≤ c := fun c hc => (hB42 c hc).elim (B_b c) (fun q => .inr (q ▸ hn))
              refine sq.w ?_
              have dn_b_n : ∀ c ∈ blkOf v41, c ≠ n := fun c hc => (hB42 c hc).elim (fun q => d_b_n c q) (fun q => by rw [q]; exact (hfo.ne hb34).symm)
              have hb34 := s40 _ _ (fun hm => d_b_n _ hm rfl) hb34
              have d_b_n := dn_b_n
              obtain ⟨a43, cp44, rfl⟩ := R_b.slice
              have hn := Nat.le_trans hn hn2
              refine sq.c (v := .slice a43 (bs ++ [lo8 (240 + r / 262144), lo8 (128 + r / 4096 % 64), lo8 (128 + r / 64 % 64), lo8 (128 + r % 64)]).length cp44) rfl rfl rfl rfl ?_
              refine sq.e ?_
              refine AWp.ret ?_
              refine ⟨rfl, [.slice a43 (bs ++ [lo8 (240 + r / 262144), lo8 (128 + r / 4096 % 64), lo8 (128 + r / 64 % 64), lo8 (128 + r % 64)]).length cp44], rfl, .slice a43 (bs ++ [lo8 (240 + r / 262144), lo8 (128 + r / 4096 % 64), lo8 (128 + r / 64 % 64), lo8 (128 + r % 64)]).length cp44, rfl, hs, hn, ?_⟩
              rw [enc4 (by omega) (by omega)]
              exact ⟨R_b, B_b⟩
            · exfalso
              omega
          · exfalso
            omega
      · rw [decide_eq_false c6_1]
        refine sq.s (wantF (g := 2) (d := 30) rfl rfl rfl) rfl ?_
        refine sq.s (wantF (g := 2) (d := 30) rfl rfl rfl) rfl ?_
        refine sq.c (v := .bool false) rfl rfl rfl rfl ?_
        refine sq.c (v := .bool false) rfl rfl rfl rfl ?_
        refine sq.e ?_
        refine AWp.condF rfl rfl ?_
        refine AWp.seq (AWp.rowV (l := _) pok ?_)
        refine sq.c (v := .int .u32 (r)) rfl rfl rfl rfl ?_
        refine sq.c (v := .bool (decide ((65535 : Int) < r))) rfl rfl rfl rfl ?_
        refine sq.c (v := .bool (decide ((65535 : Int) < r))) rfl rfl rfl rfl ?_
        by_cases c8_1 : (65535 : Int) < r
        · rw [decide_eq_true c8_1]
          refine sq.c (v := .int .u32 (r)) (wantT (g := 2) (d := 53) rfl rfl rfl) rfl rfl rfl ?_
          refine sq.c (v := .bool (decide (r ≤ (1114111 : Int)))) (wantT (g := 2) (d := 53) rfl rfl rfl) rfl rfl rfl ?_
          refine sq.c (v := .bool (decide (r ≤ (1114111 : Int)))) rfl rfl rfl rfl ?_
          refine sq.c (v := .bool (decide (r ≤ (1114111 : Int)))) rfl rfl rfl rfl ?_
          refine sq.e ?_
          by_cases c8_4 : r ≤ (1114111 : Int)
          · rw [decide_eq_true c8_4]
            refine AWp.condT rfl rfl ?_
            refine AWp.seq (AWp.rowV (l := _) pok ?_)
            refine sq.c (v := .slice a (bs.length) cp) rfl rfl rfl rfl ?_
            refine sq.c (v := .int .i32 (r)) rfl rfl rfl rfl ?_
            refine sq.c (v := .int .i32 (r / 262144)) rfl rfl (okI (shr_lit (by rfl) (by decide))) rfl ?_
            refine sq.c (v := .int .u8 (r / 262144)) rfl rfl (Eq.trans (b := some (.int .u8 (IntKind.u8.wrap (r / 262144)))) (by kernel_rfl) (okI (wrap_u8 (by omega) (by omega)))) rfl ?_
            refine sq.c (v := .int .u8 (((lo8 (240 + r / 262144)).toNat : Int))) rfl rfl (or_lead (c := true) (k := 240) (m := 8) or240 (by decide) (by omega) (by omega)) rfl ?_
            refine sq.c (v := .int .i32 (r)) rfl rfl rfl rfl ?_
            refine sq.c (v := .int .i32 (r / 4096)) rfl rfl (okI (shr_lit (by rfl) (by decide))) rfl ?_
            refine sq.c (v := .int .u8 (IntKind.u8.wrap (r / 4096))) rfl rfl (by kernel_rfl) rfl ?_
            refine sq.c (v := .int .u8 (r / 4096 % 64)) rfl rfl (and_low (c := true) (x := r / 4096) (by omega)) rfl ?_
            refine sq.c (v := .int .u8 (((lo8 (128 + r / 4096 % 64)).toNat : Int))) rfl rfl (or_lead (c := true) (k := 128) (m := 64) or128' (by decide) (by omega) (by omega)) rfl ?_
            refine sq.c (v := .int .i32 (r)) rfl rfl rfl rfl ?_
            refine sq.c (v := .int .i32 (r / 64)) rfl rfl (okI (shr_lit (by rfl) (by decide))) rfl ?_
            refine sq.c (v := .int .u8 (IntKind.u8.wrap (r / 64))) rfl rfl (by kernel_rfl) rfl ?_
            refine sq.c (v := .int .u8 (r / 64 % 64)) rfl rfl (and_low (c := true) (x := r / 64) (by omega)) rfl ?_
            refine sq.c (v := .int .u8 (((lo8 (128 + r / 64 % 64)).toNat : Int))) rfl rfl (or_lead (c := true) (k := 128) (m := 64) or128' (by decide) (by omega) (by omega)) rfl ?_
            refine sq.c (v := .int .i32 (r)) rfl rfl rfl rfl ?_
            refine sq.c (v := .int .u8 (IntKind.u8.wrap (r))) rfl rfl (by kernel_rfl) rfl ?_
            refine sq.c (v := .int .u8 (r % 64)) rfl rfl (and_low (c := true) (x := r) (by omega)) rfl ?_
            refine sq.c (v := .int .u8 (((lo8 (128 + r % 64)).toNat : Int))) rfl rfl (or_lead (c := true) (k := 128) (m := 64) or128' (by decide) (by omega) (by omega)) rfl ?_
            have d_b_n : ∀ c ∈ blkOf (.slice a (bs.length) cp), c ≠ n := fun c hc e => R_b.ne' (hf _ (Nat.le_refl _)) c hc (List.mem_singleton.2 e)
            have z_n : h.get n = none := hf0 _ hn
            refine sq.op rfl rfl (Does.build (e := 5) (cs := [.int .u8 (((lo8 (240 + r / 262144)).toNat : Int)), .int .u8 (((lo8 (128 + r / 4096 % 64)).toNat : Int)), .int .u8 (((lo8 (128 + r / 64 % 64)).toNat : Int)), .int .u8 (((lo8 (128 + r % 64)).toNat : Int))]) hf (fun _ _ => by kernel_rfl)) ?_
            rintro _ h46 n47 ⟨rfl, hb45⟩ s48 hn2 hf
            refine sq.w ?_
            have R_b := R_b.keep s48
            have hs := hs.trans (s48.mono (by simp))
            have hn := Nat.le_trans hn hn2
            have hfo := hf
            refine sq.op rfl rfl (Does.append (E := encByte) (xs := bs) (ys := [lo8 (240 + r / 262144), lo8 (128 + r / 4096 % 64), lo8 (128 + r / 64 % 64), lo8 (128 + r % 64)]) appByte ⟨.slice 5, by kernel_rfl, fun _ q => by cases q⟩ hf (nil_sub h46 []) R_b (IsRow.of (E := encByte) (xs := [lo8 (240 + r / 262144), lo8 (128 + r / 4096 % 64), lo8 (128 + r / 64 % 64), lo8 (128 + r % 64)]) (cap := 4) hb45 (Nat.le_refl _)) rfl rfl (by simp only [List.length_cons, List.length_nil]; omega) (by simp only [List.length_cons, List.length_nil]; omega) rfl) ?_
            rintro v52 h49 n50 ⟨R_b, _, hB53⟩ s51 hn2 hf
            have hs := hs.own B_b hf0 s51
            have B_b : ∀ c ∈ blkOf v52, c ∈ (blkOf (.slice a bs.length cp)) ∨ n ≤ c := fun c hc => (hB53 c hc).elim (B_b c) (fun q => .inr (q ▸ hn))
            refine sq.w ?_
            have dn_b_n : ∀ c ∈ blkOf v52, c ≠ n := fun c hc => (hB53 c hc).elim (fun q => d_b_n c q) (fun q => by rw [q]; exact (hfo.ne hb45).symm)
            have hb45 := s51 _ _ (fun hm => d_b_n _ hm rfl) hb45
            have d_b_n := dn_b_n
            obtain ⟨a54, cp55, rfl⟩ := R_b.slice
            have hn := Nat.le_trans hn hn2
            refine sq.c (v := .slice a54 (bs ++ [lo8 (240 + r / 262144), lo8 (128 + r / 4096 % 64), lo8 (128 + r / 64 % 64), lo8 (128 + r % 64)]).length cp55) rfl rfl rfl rfl ?_
            refine sq.e ?_
            refine AWp.ret ?_
            refine ⟨rfl, [.slice a54 (bs ++ [lo8 (240 + r / 262144), lo8 (128 + r / 4096 % 64), lo8 (128 + r / 64 % 64), lo8 (128 + r % 64)]).length cp55], rfl, .slice a54 (bs ++ [lo8 (240 + r / 262144), lo8 (128 + r / 4096 % 64), lo8 (128 + r / 64 % 64), lo8 (128 + r % 64)]).length cp55, rfl, hs, hn, ?_⟩
            rw [enc4 (by omega) (by omega)]
            exact ⟨R_b, B_b⟩
          · exfalso
            omega
        · exfalso
          omega
theorem f82_spec {h : Heap} {n : Nat} {a : Option Addr} {cp : Nat} (bs : List UInt8) (r : Int) (R_b : OwnRow encByte 5 (Trie.nil : Heap) h (.slice a bs.length cp) bs) (hr : isR r) (hlb : bs.length < 1000000000000) :
    Makes Tryz.prog 82 [.slice a (bs.length) cp, .int .i32 (r)] h n ((blkOf (.slice a bs.length cp))) (fun v h2 _ => OwnRow encByte 5 (Trie.nil : Heap) h2 v (bs ++ encR r) ∧ ∀ c ∈ blkOf v, c ∈ blkOf (.slice a bs.length cp) ∨ n ≤ c) := by
  refine Makes.free fun hf => ?_
  have B_b : ∀ c ∈ blkOf (.slice a bs.length cp), c ∈ blkOf (.slice a bs.length cp) ∨ n ≤ c := fun c hc => .inl hc
  obtain ⟨hr0, hr1, hr2⟩ := hr
  have hen := enc_len r
  have hs : SubBut h h ((blkOf (.slice a bs.length cp))) := .refl _ _
  have hn : n ≤ n := Nat.le_refl _
  have hf0 := hf
  refine Makes.of_bodyV (args := [.slice a (bs.length) cp, .int .i32 (r)]) (vs := [.slice a (bs.length) cp, .int .i32 (r), undef, undef, undef, undef, undef, undef, undef, undef, undef, undef, undef, undef, undef, undef]) Tryz.func82 rfl rfl ?_
  refine AWp.seq (AWp.rowV (l := _) pok ?_)
  refine sq.c (v := .slice none (0) (0)) rfl rfl rfl rfl ?_
  refine sq.e (AWp.seq (AWp.seq (AWp.rowV (l := _) pok ?_)))
  refine sq.c (v := .int .i32 (r)) rfl rfl rfl rfl ?_
  refine sq.c (v := .int .u32 (r)) rfl rfl (Eq.trans (b := some (.int .u32 (IntKind.u32.wrap (r)))) (by kernel_rfl) (okI (wrap_u32 (by omega) (by omega)))) rfl ?_
  refine sq.c (v := .bool (decide (r ≤ (127 : Int)))) rfl rfl rfl rfl ?_
  refine sq.e ?_
  by_cases c1_2 : r ≤ (127 : Int)
  · rw [decide_eq_true c1_2]
    refine AWp.condT rfl rfl ?_
    refine AWp.seq (AWp.rowV (l := _) pok ?_)
    refine sq.c (v := .slice a (bs.length) cp) rfl rfl rfl rfl ?_
    refine sq.c (v := .int .i32 (r)) rfl rfl rfl rfl ?_
    refine sq.c (v := .int .u8 (((lo8 r).toNat : Int))) rfl rfl (okI (Eq.trans (wrap_u8 (by omega) (by omega)) (lo8_int (by omega) (by omega)).symm)) rfl ?_
    have d_b_n : ∀ c ∈ blkOf (.slice a (bs.length) cp), c ≠ n := fun c hc e => R_b.ne' (hf _ (Nat.le_refl _)) c hc (List.mem_singleton.2 e)
    have z_n : h.get n = none := hf0 _ hn
    refine sq.op rfl rfl (Does.build (e := 5) (cs := [.int .u8 (((lo8 r).toNat : Int))]) hf (fun _ _ => by kernel_rfl)) ?_
    rintro _ h2 n3 ⟨rfl, hb1⟩ s4 hn2 hf
    refine sq.w ?_
    have R_b := R_b.keep s4
    have hs := hs.trans (s4.mono (by simp))
    have hn := Nat.le_trans hn hn2
    have hfo := hf
    refine sq.op rfl rfl (Does.append (E := encByte) (xs := bs) (ys := [lo8 r]) appByte ⟨.slice 5, by kernel_rfl, fun _ q => by cases q⟩ hf (nil_sub h2 []) R_b (IsRow.of (E := encByte) (xs := [lo8 r]) (cap := 1) hb1 (Nat.le_refl _)) rfl rfl (by simp only [List.length_cons, List.length_nil]; omega) (by simp only [List.length_cons, List.length_nil]; omega) rfl) ?_
    rintro v8 h5 n6 ⟨R_b, _, hB9⟩ s7 hn2 hf
    have hs := hs.own B_b hf0 s7
    have B_b : ∀ c ∈ blkOf v8, c ∈ (blkOf (.slice a bs.length cp)) ∨ n ≤ c := fun c hc => (hB9 c hc).elim (B_b c) (fun q => .inr (q ▸ hn))
    refine sq.w ?_
    have dn_b_n : ∀ c ∈ blkOf v8, c ≠ n := fun c hc => (hB9 c hc).elim (fun q => d_b_n c q) (fun q => by rw [q]; exact (hfo.ne hb1).symm)
    have hb1 := s7 _ _ (fun hm => d_b_n _ hm rfl) hb1
    have d_b_n := dn_b_n
    obtain ⟨a10, cp11, rfl⟩ := R_b.slice
    have hn := Nat.le_trans hn hn2
    refine sq.c (v := .slice a10 (bs ++ [lo8 r]).length cp11) rfl rfl rfl rfl ?_
    refine sq.e ?_
    refine AWp.ret ?_
    refine ⟨rfl, [.slice a10 (bs ++ [lo8 r]).length cp11], rfl, .slice a10 (bs ++ [lo8 r]).length cp11, rfl, hs, hn, ?_⟩
    rw [enc1 (by omega) (by omega)]
    exact ⟨R_b, B_b⟩
  · rw [decide_eq_false c1_2]
    refine AWp.condF rfl rfl ?_
    refine AWp.skip (AWp.seq (AWp.rowV (l := _) pok ?_))
    refine sq.c (v := .slice a (bs.length) cp) rfl rfl rfl rfl ?_
    refine sq.c (v := .int .i32 (r)) rfl rfl rfl rfl ?_
    have hfo := hf
    refine sq.k rfl (CallsF.fn rfl (by kernel_rfl) rfl rfl) (f93_spec bs r R_b ⟨hr0, hr1, hr2⟩ (by omega) (by omega)) ?_
    rintro v12 h13 n14 ⟨R_b, hB_b⟩ s15 hn2 hf
    refine sq.w ?_
    have hs := hs.own B_b hf0 s15
    have B_b : ∀ c ∈ blkOf v12, c ∈ (blkOf (.slice a bs.length cp)) ∨ n ≤ c := fun c hc => (hB_b c hc).elim (B_b c) (fun q => .inr (Nat.le_trans hn q))
    obtain ⟨a_b11, cp_b11, rfl⟩ := R_b.slice
    have hn := Nat.le_trans hn hn2
    refine sq.c (v := .slice a_b11 (bs ++ (encR r)).length cp_b11) rfl rfl rfl rfl ?_
    refine sq.e ?_
    refine AWp.ret ?_
    refine ⟨rfl, [.slice a_b11 (bs ++ (encR r)).length cp_b11], rfl, .slice a_b11 (bs ++ (encR r)).length cp_b11, rfl, hs, hn, ?_⟩
    exact ⟨R_b, B_b⟩
theorem f60_spec {h : Heap} {n : Nat} {b : Nat} {pa : Value} {a : Option Addr} {cp : Nat} (bs : List UInt8) (hpa : PA pa b) (hb : h.get b = some (.cells [pa, .slice a bs.length cp] true BCI)) (R_r : OwnRow encByte 5 (Trie.nil : Heap) h (.slice a bs.length cp) bs) (d_r_b : ∀ c ∈ blkOf (.slice a bs.length cp), c ≠ b) (hlb : bs.length < 100000000000) (c : UInt8) :
    Makes Tryz.prog 60 [.pointer (some ⟨b, 0, none⟩), .int .u8 (((c).toNat : Int))] h n ((b :: blkOf (.slice a bs.length cp))) (fun _ h2 _ => BAfter h2 b (.slice a bs.length cp) n (bs ++ [c])) := by
  refine Makes.free fun hf => ?_
  have B_r : ∀ c ∈ blkOf (.slice a bs.length cp), c ∈ (b :: blkOf (.slice a bs.length cp)) ∨ n ≤ c := fun c hc => .inl (List.mem_cons_of_mem _ hc)
  have hs : SubBut h h ((b :: blkOf (.slice a bs.length cp))) := .refl _ _
  have hn : n ≤ n := Nat.le_refl _
  have hf0 := hf
  refine Makes.of_bodyV (args := [.pointer (some ⟨b, 0, none⟩), .int .u8 (((c).toNat : Int))]) (vs := [.pointer (some ⟨b, 0, none⟩), .int .u8 (((c).toNat : Int)), undef, undef, undef, undef, undef, undef, undef, undef, undef, undef, undef, undef, undef, undef, undef]) Tryz.func60 rfl rfl ?_
  refine AWp.seq (AWp.rowV (l := _) pok ?_)
  refine sq.c (v := .nilIface) rfl rfl rfl rfl ?_
  refine sq.e (AWp.seq (AWp.rowV (l := _) pok ?_))
  refine sq.c (v := .pointer (some ⟨b, 0, none⟩)) rfl rfl rfl rfl ?_
  refine sq.k rfl (CallsF.fn rfl (by kernel_rfl) rfl rfl) (f81_spec hb hpa) ?_
  rintro _ h2 n3 ⟨rfl, hb1⟩ s4 hn2 hf
  refine sq.w ?_
  have R_r := R_r.but s4 (fun c hc hm => d_r_b c hc (List.mem_singleton.1 hm))
  have hs := hs.at (by simp) s4
  have hn := Nat.le_trans hn hn2
  refine sq.e (AWp.seq (AWp.rowV (l := _) pok ?_))
  refine sq.c (v := .pointer (some ⟨b, 0, none⟩)) rfl rfl rfl rfl ?_
  refine sq.c (v := .pointer (some ⟨b, 0, none⟩)) rfl rfl rfl rfl ?_
  refine sq.c (v := .pointer (some ⟨b, 0, none⟩)) rfl rfl rfl rfl ?_
  refine sq.c (v := .pointer (some ⟨b, 1, none⟩)) rfl rfl (by kernel_rfl) rfl ?_
  refine sq.c (v := .slice a (bs.length) cp) rfl rfl (ld1 (P := Tryz.prog) (t := 42) (p := 1) (v := .slice a (bs.length) cp) (by kernel_rfl) (by kernel_rfl) hb1 rfl) rfl ?_
  refine sq.c (v := .int .u8 (((c).toNat : Int))) rfl rfl rfl rfl ?_
  have e_b_n3 : b ≠ n3 := hf.ne hb1
  have d_r_n3 : ∀ c ∈ blkOf (.slice a (bs.length) cp), c ≠ n3 := fun c hc e => R_r.ne' (hf _ (Nat.le_refl _)) c hc (List.mem_singleton.2 e)
  have z_n3 : h.get n3 = none := hf0 _ hn
  refine sq.op rfl rfl (Does.build (e := 5) (cs := [.int .u8 (((c).toNat : Int))]) hf (fun _ _ => by kernel_rfl)) ?_
  rintro _ h6 n7 ⟨rfl, hb5⟩ s8 hn2 hf
  refine sq.w ?_
  have hb1 := s8.sub _ _ hb1
  have R_r := R_r.keep s8
  have hs := hs.trans (s8.mono (by simp))
  have hn := Nat.le_trans hn hn2
  have hfo := hf
  refine sq.op rfl rfl (Does.append (E := encByte) (xs := bs) (ys := [c]) appByte ⟨.slice 5, by kernel_rfl, fun _ q => by cases q⟩ hf (nil_sub h6 []) R_r (IsRow.of (E := encByte) (xs := [c]) (cap := 1) hb5 (Nat.le_refl _)) rfl rfl (by simp only [List.length_cons, List.length_nil]; omega) (by simp only [List.length_cons, List.length_nil]; omega) rfl) ?_
  rintro v12 h9 n10 ⟨R_r, _, hB13⟩ s11 hn2 hf
  have hs := hs.own B_r hf0 s11
  have B_r : ∀ c ∈ blkOf v12, c ∈ (b :: blkOf (.slice a bs.length cp)) ∨ n ≤ c := fun c hc => (hB13 c hc).elim (B_r c) (fun q => .inr (q ▸ hn))
  refine sq.w ?_
  have dn_r_b : ∀ c ∈ blkOf v12, c ≠ b := fun c hc => (hB13 c hc).elim (fun q => d_r_b c q) (fun q => by rw [q]; exact (hfo.ne hb1).symm)
  have dn_r_n3 : ∀ c ∈ blkOf v12, c ≠ n3 := fun c hc => (hB13 c hc).elim (fun q => d_r_n3 c q) (fun q => by rw [q]; exact (hfo.ne hb5).symm)
  have hb1 := s11 _ _ (fun hm => d_r_b _ hm rfl) hb1
  have hb5 := s11 _ _ (fun hm => d_r_n3 _ hm rfl) hb5
  have d_r_b := dn_r_b
  have d_r_n3 := dn_r_n3
  obtain ⟨a14, cp15, rfl⟩ := R_r.slice
  have hn := Nat.le_trans hn hn2
  refine sq.c (v := .pointer (some ⟨b, 0, none⟩)) rfl rfl rfl rfl ?_
  refine sq.c (v := .pointer (some ⟨b, 1, none⟩)) rfl rfl (by kernel_rfl) rfl ?_
  refine sq.op rfl rfl (Does.store (k := 1) (xs := [.slice a14 (bs ++ [c]).length cp15]) (cs' := [.pointer (some ⟨b, 0, none⟩), .slice a14 (bs ++ [c]).length cp15]) hf (by kernel_rfl) rfl rfl rfl hb1 rfl rfl (Nat.le_of_ble_eq_true rfl) rfl) ?_
  rintro _ h17 n18 ⟨rfl, hb16⟩ s19 hn2 hf
  refine sq.w0 ?_
  have R_r := R_r.but s19 (fun c hc hm => d_r_b c hc (List.mem_singleton.1 hm))
  have hs := hs.at (by simp) s19
  have hn := Nat.le_trans hn hn2
  refine sq.e (AWp.seq (AWp.rowV (l := _) pok ?_))
  refine sq.c (v := .nilIface) rfl rfl rfl rfl ?_
  refine sq.e ?_
  refine AWp.ret ?_
  refine ⟨rfl, [.nilIface], rfl, .nilIface, rfl, hs, hn, ?_⟩
  exact ⟨_, _, hb16, R_r, (fun c hc => (B_r c hc).elim (fun q => .inl ((List.mem_cons.1 q).resolve_left (d_r_b c hc))) .inr), d_r_b⟩
theorem f61_spec {h : Heap} {n : Nat} {b : Nat} {pa : Value} {a : Option Addr} {cp : Nat} (bs : List UInt8) (hpa : PA pa b) (hb : h.get b = some (.cells [pa, .slice a bs.length cp] true BCI)) (R_r : OwnRow encByte 5 (Trie.nil : Heap) h (.slice a bs.length cp) bs) (d_r_b : ∀ c ∈ blkOf (.slice a bs.length cp), c ≠ b) (hlb : bs.length < 100000000000) (r : Int) (hr : isR r) :
    Makes Tryz.prog 61 [.pointer (some ⟨b, 0, none⟩), .int .i32 (r)] h n ((b :: blkOf (.slice a bs.length cp))) (fun _ h2 _ => BAfter h2 b (.slice a bs.length cp) n (bs ++ encR r)) := by
  refine Makes.free fun hf => ?_
  have B_r : ∀ c ∈ blkOf (.slice a bs.length cp), c ∈ (b :: blkOf (.slice a bs.length cp)) ∨ n ≤ c := fun c hc => .inl (List.mem_cons_of_mem _ hc)
  have hs : SubBut h h ((b :: blkOf (.slice a bs.length cp))) := .refl _ _
  have hn : n ≤ n := Nat.le_refl _
  have hf0 := hf
  refine Makes.of_bodyV (args := [.pointer (some ⟨b, 0, none⟩), .int .i32 (r)]) (vs := [.pointer (some ⟨b, 0, none⟩), .int .i32 (r), undef, undef, undef, undef, undef, undef, undef, undef, undef, undef, undef, undef, undef, undef, undef, undef, undef, undef, undef, undef, undef, undef, undef, undef, undef, undef, undef, undef]) Tryz.func61 rfl rfl ?_
  refine AWp.seq (AWp.rowV (l := _) pok ?_)
  refine sq.c (v := .int .i64 (0)) rfl rfl rfl rfl ?_
  refine sq.c (v := .nilIface) rfl rfl rfl rfl ?_
  refine sq.e (AWp.seq (AWp.rowV (l := _) pok ?_))
  refine sq.c (v := .pointer (some ⟨b, 0, none⟩)) rfl rfl rfl rfl ?_
  refine sq.k rfl (CallsF.fn rfl (by kernel_rfl) rfl rfl) (f81_spec hb hpa) ?_
  rintro _ h2 n3 ⟨rfl, hb1⟩ s4 hn2 hf
  refine sq.w ?_
  have R_r := R_r.but s4 (fun c hc hm => d_r_b c hc (List.mem_singleton.1 hm))
  have hs := hs.at (by simp) s4
  have hn := Nat.le_trans hn hn2
  refine sq.e (AWp.seq (AWp.rowV (l := _) pok ?_))
  refine sq.c (v := .pointer (some ⟨b, 0, none⟩)) rfl rfl rfl rfl ?_
  refine sq.c (v := .pointer (some ⟨b, 0, none⟩)) rfl rfl rfl rfl ?_
  refine sq.c (v := .pointer (some ⟨b, 1, none⟩)) rfl rfl (by kernel_rfl) rfl ?_
  refine sq.c (v := .slice a (bs.length) cp) rfl rfl (ld1 (P := Tryz.prog) (t := 42) (p := 1) (v := .slice a (bs.length) cp) (by kernel_rfl) (by kernel_rfl) hb1 rfl) rfl ?_
  refine sq.c (v := .int .i64 (((bs.length : Nat) : Int))) rfl rfl (by kernel_rfl) rfl ?_
  refine sq.c (v := .int .i64 (((bs.length : Nat) : Int))) rfl rfl rfl rfl ?_
  refine sq.e (AWp.seq (AWp.rowV (l := _) pok ?_))
  refine sq.c (v := .pointer (some ⟨b, 0, none⟩)) rfl rfl rfl rfl ?_
  refine sq.c (v := .pointer (some ⟨b, 0, none⟩)) rfl rfl rfl rfl ?_
  refine sq.c (v := .pointer (some ⟨b, 0, none⟩)) rfl rfl rfl rfl ?_
  refine sq.c (v := .pointer (some ⟨b, 1, none⟩)) rfl rfl (by kernel_rfl) rfl ?_
  refine sq.c (v := .slice a (bs.length) cp) rfl rfl (ld1 (P := Tryz.prog) (t := 42) (p := 1) (v := .slice a (bs.length) cp) (by kernel_rfl) (by kernel_rfl) hb1 rfl) rfl ?_
  refine sq.c (v := .int .i32 (r)) rfl rfl rfl rfl ?_
  have hfo := hf
  refine sq.k rfl (CallsF.fn rfl (by kernel_rfl) rfl rfl) (f82_spec bs r R_r hr (by omega)) ?_
  rintro v5 h6 n7 ⟨R_q, hB_q⟩ s8 hn2 hf
  refine sq.w ?_
  have d_q_b : ∀ c ∈ blkOf v5, c ≠ b := fun c hc => (hB_q c hc).elim (fun q => d_r_b c q) (fun q e => by rw [e] at q; have := hfo _ q; rw [hb1] at this; cases this)
  have hs := hs.own B_r hf0 s8
  have B_q : ∀ c ∈ blkOf v5, c ∈ (b :: blkOf (.slice a bs.length cp)) ∨ n ≤ c := fun c hc => (hB_q c hc).elim (B_r c) (fun q => .inr (Nat.le_trans hn q))
  have hb1 := s8 _ _ (fun hm => d_r_b _ hm rfl) hb1
  obtain ⟨a_q4, cp_q4, rfl⟩ := R_q.slice
  have hn := Nat.le_trans hn hn2
  refine sq.c (v := .pointer (some ⟨b, 0, none⟩)) rfl rfl rfl rfl ?_
  refine sq.c (v := .pointer (some ⟨b, 1, none⟩)) rfl rfl (by kernel_rfl) rfl ?_
  refine sq.op rfl rfl (Does.store (k := 1) (xs := [.slice a_q4 (bs ++ (encR r)).length cp_q4]) (cs' := [.pointer (some ⟨b, 0, none⟩), .slice a_q4 (bs ++ (encR r)).length cp_q4]) hf (by kernel_rfl) rfl rfl rfl hb1 rfl rfl (Nat.le_of_ble_eq_true rfl) rfl) ?_
  rintro _ h10 n11 ⟨rfl, hb9⟩ s12 hn2 hf
  refine sq.w0 ?_
  have R_q := R_q.but s12 (fun c hc hm => d_q_b c hc (List.mem_singleton.1 hm))
  have hs := hs.at (by simp) s12
  have hn := Nat.le_trans hn hn2
  refine sq.e (AWp.seq (AWp.rowV (l := _) pok ?_))
  refine sq.c (v := .pointer (some ⟨b, 0, none⟩)) rfl rfl rfl rfl ?_
  refine sq.c (v := .pointer (some ⟨b, 0, none⟩)) rfl rfl rfl rfl ?_
  refine sq.c (v := .pointer (some ⟨b, 1, none⟩)) rfl rfl (by kernel_rfl) rfl ?_
  refine sq.c (v := .slice a_q4 (bs ++ (encR r)).length cp_q4) rfl rfl (ld1 (P := Tryz.prog) (t := 42) (p := 1) (v := .slice a_q4 (bs ++ (encR r)).length cp_q4) (by kernel_rfl) (by kernel_rfl) hb9 rfl) rfl ?_
  refine sq.c (v := .int .i64 ((((bs ++ (encR r)).length : Nat) : Int))) rfl rfl (by kernel_rfl) rfl ?_
  refine sq.c (v := .int .i64 (((bs.length : Nat) : Int))) rfl rfl rfl rfl ?_
  refine sq.c (v := .int .i64 (((((bs ++ (encR r)).length : Nat) : Int)) - (((bs.length : Nat) : Int)))) rfl rfl (okI (wrap_i64 (by (have hen := enc_len r; rw [List.length_append]; omega)) (by (have hen := enc_len r; rw [List.length_append]; omega)))) rfl ?_
  refine sq.c (v := .int .i64 (((((bs ++ (encR r)).length : Nat) : Int)) - (((bs.length : Nat) : Int)))) rfl rfl rfl rfl ?_
  refine sq.c (v := .nilIface) rfl rfl rfl rfl ?_
  refine sq.e ?_
  refine AWp.ret ?_
  refine ⟨rfl, [.int .i64 (((((bs ++ (encR r)).length : Nat) : Int)) - (((bs.length : Nat) : Int))), .nilIface], rfl, .tuple #[.int .i64 (((((bs ++ (encR r)).length : Nat) : Int)) - (((bs.length : Nat) : Int))), .nilIface], rfl, hs, hn, ?_⟩
  exact ⟨_, _, hb9, R_q, (fun c hc => (B_q c hc).elim (fun q => .inl ((List.mem_cons.1 q).resolve_left (d_q_b c hc))) .inr), d_q_b⟩
theorem f62_spec {h : Heap} {n : Nat} {b : Nat} {pa : Value} {a : Option Addr} {cp : Nat} (bs : List UInt8) (hpa : PA pa b) (hb : h.get b = some (.cells [pa, .slice a bs.length cp] true BCI)) (R_r : OwnRow encByte 5 (Trie.nil : Heap) h (.slice a bs.length cp) bs) (d_r_b : ∀ c ∈ blkOf (.slice a bs.length cp), c ≠ b) (hlb : bs.length < 100000000000) (s : ByteArray) (hls : s.data.toList.length < 100000000000) :
    Makes Tryz.prog 62 [.pointer (some ⟨b, 0, none⟩), .string (s)] h n ((b :: blkOf (.slice a bs.length cp))) (fun _ h2 _ => BAfter h2 b (.slice a bs.length cp) n (bs ++ s.data.toList)) := by
  refine Makes.free fun hf => ?_
  have B_r : ∀ c ∈ blkOf (.slice a bs.length cp), c ∈ (b :: blkOf (.slice a bs.length cp)) ∨ n ≤ c := fun c hc => .inl (List.mem_cons_of_mem _ hc)
  have hs : SubBut h h ((b :: blkOf (.slice a bs.length cp))) := .refl _ _
  have hn : n ≤ n := Nat.le_refl _
  have hf0 := hf
  refine Makes.of_bodyV (args := [.pointer (some ⟨b, 0, none⟩), .string (s)]) (vs := [.pointer (some ⟨b, 0, none⟩), .string (s), undef, undef, undef, undef, undef, undef, undef, undef, undef, undef, undef, undef, undef, undef, undef, undef, undef]) Tryz.func62 rfl rfl ?_
  refine AWp.seq (AWp.rowV (l := _) pok ?_)
  refine sq.c (v := .int .i64 (0)) rfl rfl rfl rfl ?_
  refine sq.c (v := .nilIface) rfl rfl rfl rfl ?_
  refine sq.e (AWp.seq (AWp.rowV (l := _) pok ?_))
  refine sq.c (v := .pointer (some ⟨b, 0, none⟩)) rfl rfl rfl rfl ?_
  refine sq.k rfl (CallsF.fn rfl (by kernel_rfl) rfl rfl) (f81_spec hb hpa) ?_
  rintro _ h2 n3 ⟨rfl, hb1⟩ s4 hn2 hf
  refine sq.w ?_
  have R_r := R_r.but s4 (fun c hc hm => d_r_b c hc (List.mem_singleton.1 hm))
  have hs := hs.at (by simp) s4
  have hn := Nat.le_trans hn hn2
  refine sq.e (AWp.seq (AWp.rowV (l := _) pok ?_))
  refine sq.c (v := .pointer (some ⟨b, 0, none⟩)) rfl rfl rfl rfl ?_
  refine sq.c (v := .pointer (some ⟨b, 0, none⟩)) rfl rfl rfl rfl ?_
  refine sq.c (v := .pointer (some ⟨b, 0, none⟩)) rfl rfl rfl rfl ?_
  refine sq.c (v := .pointer (some ⟨b, 1, none⟩)) rfl rfl (by kernel_rfl) rfl ?_
  refine sq.c (v := .slice a (bs.length) cp) rfl rfl (ld1 (P := Tryz.prog) (t := 42) (p := 1) (v := .slice a (bs.length) cp) (by kernel_rfl) (by kernel_rfl) hb1 rfl) rfl ?_
  refine sq.c (v := .string (s)) rfl rfl rfl rfl ?_
  have hfo := hf
  refine sq.op rfl rfl (Does.appendS (bs := bs) (x := s) appByte ⟨.string, by kernel_rfl, fun _ q => by cases q⟩ hf (nil_sub h2 []) R_r  rfl rfl (by omega) (by omega) rfl) ?_
  rintro v8 h5 n6 ⟨R_r, _, hB9⟩ s7 hn2 hf
  have hs := hs.own B_r hf0 s7
  have B_r : ∀ c ∈ blkOf v8, c ∈ (b :: blkOf (.slice a bs.length cp)) ∨ n ≤ c := fun c hc => (hB9 c hc).elim (B_r c) (fun q => .inr (q ▸ hn))
  refine sq.w ?_
  have dn_r_b : ∀ c ∈ blkOf v8, c ≠ b := fun c hc => (hB9 c hc).elim (fun q => d_r_b c q) (fun q => by rw [q]; exact (hfo.ne hb1).symm)
  have hb1 := s7 _ _ (fun hm => d_r_b _ hm rfl) hb1
  have d_r_b := dn_r_b
  obtain ⟨a10, cp11, rfl⟩ := R_r.slice
  have hn := Nat.le_trans hn hn2
  refine sq.c (v := .pointer (some ⟨b, 0, none⟩)) rfl rfl rfl rfl ?_
  refine sq.c (v := .pointer (some ⟨b, 1, none⟩)) rfl rfl (by kernel_rfl) rfl ?_
  refine sq.op rfl rfl (Does.store (k := 1) (xs := [.slice a10 (bs ++ (s).data.toList).length cp11]) (cs' := [.pointer (some ⟨b, 0, none⟩), .slice a10 (bs ++ (s).data.toList).length cp11]) hf (by kernel_rfl) rfl rfl rfl hb1 rfl rfl (Nat.le_of_ble_eq_true rfl) rfl) ?_
  rintro _ h13 n14 ⟨rfl, hb12⟩ s15 hn2 hf
  refine sq.w0 ?_
  have R_r := R_r.but s15 (fun c hc hm => d_r_b c hc (List.mem_singleton.1 hm))
  have hs := hs.at (by simp) s15
  have hn := Nat.le_trans hn hn2
  refine sq.e (AWp.seq (AWp.rowV (l := _) pok ?_))
  refine sq.c (v := .string (s)) rfl rfl rfl rfl ?_
  refine sq.c (v := .int .i64 ((((s).data.toList.length : Nat) : Int))) rfl rfl (by kernel_rfl) rfl ?_
  refine sq.c (v := .int .i64 ((((s).data.toList.length : Nat) : Int))) rfl rfl rfl rfl ?_
  refine sq.c (v := .nilIface) rfl rfl rfl rfl ?_
  refine sq.e ?_
  refine AWp.ret ?_
  refine ⟨rfl, [.int .i64 ((((s).data.toList.length : Nat) : Int)), .nilIface], rfl, .tuple #[.int .i64 ((((s).data.toList.length : Nat) : Int)), .nilIface], rfl, hs, hn, ?_⟩
  exact ⟨_, _, hb12, R_r, (fun c hc => (B_r c hc).elim (fun q => .inl ((List.mem_cons.1 q).resolve_left (d_r_b c hc))) .inr), d_r_b⟩
theorem data_row {h : Heap} {n r l cp : Nat} (h0 : 0 < l) (hU : l < U) (hcp : cp = U ∨ cp = l) : dataE [.slice (some ⟨r, 0, none⟩) l cp] h n = some (.val (.pointer (some ⟨r, 0, none⟩)), h, n) := by
  show (if (cp < U ∧ cp ≠ 0) ∨ (cp = U ∧ l ≠ 0) then _ else none) = _
  rw [if_pos]
  rcases hcp with e | e <;> omega
theorem f64_own {h : Heap} {n : Nat} {b r cp : Nat} {pa : Value} {cr : CI} (bs : List UInt8) (hb : h.get b = some (.cells [pa, .slice (some ⟨r, 0, none⟩) bs.length cp] true BCI)) (hr : h.get r = some (.cells (encByte.row bs) true cr)) (hcr : cr.e = 5) (h0 : 0 < bs.length) (hl : bs.length < 100000000000) (hcp : cp = U ∨ cp = bs.length) (hne : b ≠ r) :
    Makes Tryz.prog 64 [.pointer (some ⟨b, 0, none⟩)] h n ([r]) (fun u _ _ => u = .string (strB bs)) := by
  refine Makes.free fun hf => ?_
  have hU : bs.length < U := by unfold U; omega
  have hs : SubBut h h ([r]) := .refl _ _
  have hn : n ≤ n := Nat.le_refl _
  have hf0 := hf
  refine Makes.of_bodyV (args := [.pointer (some ⟨b, 0, none⟩)]) (vs := [.pointer (some ⟨b, 0, none⟩), undef, undef, undef, undef, undef, undef, undef, undef, undef, undef, undef, undef, undef]) Tryz.func64 rfl rfl ?_
  refine AWp.seq (AWp.rowV (l := _) pok ?_)
  refine sq.c (v := .string (⟨#[]⟩)) rfl rfl rfl rfl ?_
  refine sq.e (AWp.seq ?_)
  refine AWp.anyK pok [0, 1, 2, 3, 5, 6, 7, 8, 9, 4, 10, 11] (by kernel_rfl) (by kernel_rfl) rfl (fun x fr fr' h n hd _ q => ⟨hd ▸ q.1, q.2⟩) ?_
  refine dk.c (v := .pointer (some ⟨b, 0, none⟩)) rfl (by kernel_rfl) rfl rfl rfl rfl ?_
  refine dk.c (v := .pointer (some ⟨b, 0, none⟩)) rfl (by kernel_rfl) rfl rfl rfl rfl ?_
  refine dk.c (v := .pointer (some ⟨b, 1, none⟩)) rfl (by kernel_rfl) rfl rfl (by kernel_rfl) rfl ?_
  refine dk.gB (v := .slice (some ⟨r, 0, none⟩) (bs.length) cp) b rfl (by kernel_rfl) rfl rfl (fun _ q_ => (ld1 (P := Tryz.prog) (t := 42) (p := 1) (v := .slice (some ⟨r, 0, none⟩) (bs.length) cp) (by kernel_rfl) (by kernel_rfl) (q_ _ hb) rfl)) rfl ?_
  refine dk.c (v := .pointer (some ⟨b, 0, none⟩)) rfl (by kernel_rfl) rfl rfl rfl rfl ?_
  refine dk.c (v := .pointer (some ⟨b, 0, none⟩)) rfl (by kernel_rfl) rfl rfl rfl rfl ?_
  refine dk.c (v := .pointer (some ⟨b, 1, none⟩)) rfl (by kernel_rfl) rfl rfl (by kernel_rfl) rfl ?_
  refine dk.gB (v := .slice (some ⟨r, 0, none⟩) (bs.length) cp) b rfl (by kernel_rfl) rfl rfl (fun _ q_ => (ld1 (P := Tryz.prog) (t := 42) (p := 1) (v := .slice (some ⟨r, 0, none⟩) (bs.length) cp) (by kernel_rfl) (by kernel_rfl) (q_ _ hb) rfl)) rfl ?_
  refine dk.c (v := .int .i64 (((bs.length : Nat) : Int))) rfl (by kernel_rfl) rfl rfl (by kernel_rfl) rfl ?_
  refine dk.op rfl (by kernel_rfl) rfl rfl (Does.sdata hf rfl (data_row h0 hU hcp)) (keepC (by simp) (keepC (by simp) keepN)) ?_
  rintro _ h1 n2 ⟨rfl, _⟩ s3 hn2 hf
  refine dk.w ?_
  have hr := s3.sub _ _ hr
  have hs := hs.trans (s3.mono (by simp))
  have hn := Nat.le_trans hn hn2
  refine dk.op rfl (by kernel_rfl) rfl rfl (Does.bstr hf rfl rfl (by kernel_rfl) hr hcr (by kernel_rfl) h0 (by omega)) (keepC (fun hm => hne (List.mem_singleton.1 hm)) (keepC (fun hm => hne (List.mem_singleton.1 hm)) keepN)) ?_
  rintro _ h4 n5 rfl s6 hn2 hf
  refine dk.w ?_
  have hs := hs.at (by simp) s6
  have hn := Nat.le_trans hn hn2
  refine dk.c (v := .string (⟨bs.toArray⟩)) rfl (by kernel_rfl) rfl rfl rfl rfl ?_
  refine dk.e ?_
  refine AWp.ret ?_
  refine ⟨rfl, [.string (⟨bs.toArray⟩)], rfl, .string (⟨bs.toArray⟩), rfl, hs, hn, ?_⟩
  rfl
theorem f64_nil {h : Heap} {n : Nat} {b : Nat} {pa : Value} (hb : h.get b = some (.cells [pa, .slice none 0 0] true BCI)) :
    Makes Tryz.prog 64 [.pointer (some ⟨b, 0, none⟩)] h n ([]) (fun u _ _ => u = .string ⟨#[]⟩) := by
  refine Makes.free fun hf => ?_
  have hs : SubBut h h ([]) := .refl _ _
  have hn : n ≤ n := Nat.le_refl _
  have hf0 := hf
  refine Makes.of_bodyV (args := [.pointer (some ⟨b, 0, none⟩)]) (vs := [.pointer (some ⟨b, 0, none⟩), undef, undef, undef, undef, undef, undef, undef, undef, undef, undef, undef, undef, undef]) Tryz.func64 rfl rfl ?_
  refine AWp.seq (AWp.rowV (l := _) pok ?_)
  refine sq.c (v := .string (⟨#[]⟩)) rfl rfl rfl rfl ?_
  refine sq.e (AWp.seq ?_)
  refine AWp.anyK pok [0, 1, 2, 3, 5, 6, 7, 8, 9, 4, 10, 11] (by kernel_rfl) (by kernel_rfl) rfl (fun x fr fr' h n hd _ q => ⟨hd ▸ q.1, q.2⟩) ?_
  refine dk.c (v := .pointer (some ⟨b, 0, none⟩)) rfl (by kernel_rfl) rfl rfl rfl rfl ?_
  refine dk.c (v := .pointer (some ⟨b, 0, none⟩)) rfl (by kernel_rfl) rfl rfl rfl rfl ?_
  refine dk.c (v := .pointer (some ⟨b, 1, none⟩)) rfl (by kernel_rfl) rfl rfl (by kernel_rfl) rfl ?_
  refine dk.gB (v := .slice none (0) (0)) b rfl (by kernel_rfl) rfl rfl (fun _ q_ => (ld1 (P := Tryz.prog) (t := 42) (p := 1) (v := .slice none (0) (0)) (by kernel_rfl) (by kernel_rfl) (q_ _ hb) rfl)) rfl ?_
  refine dk.c (v := .pointer (some ⟨b, 0, none⟩)) rfl (by kernel_rfl) rfl rfl rfl rfl ?_
  refine dk.c (v := .pointer (some ⟨b, 0, none⟩)) rfl (by kernel_rfl) rfl rfl rfl rfl ?_
  refine dk.c (v := .pointer (some ⟨b, 1, none⟩)) rfl (by kernel_rfl) rfl rfl (by kernel_rfl) rfl ?_
  refine dk.gB (v := .slice none (0) (0)) b rfl (by kernel_rfl) rfl rfl (fun _ q_ => (ld1 (P := Tryz.prog) (t := 42) (p := 1) (v := .slice none (0) (0)) (by kernel_rfl) (by kernel_rfl) (q_ _ hb) rfl)) rfl ?_
  refine dk.c (v := .int .i64 (0)) rfl (by kernel_rfl) rfl rfl (by kernel_rfl) rfl ?_
  refine dk.op rfl (by kernel_rfl) rfl rfl (Does.sdata hf rfl rfl) (keepC (by simp) (keepC (by simp) keepN)) ?_
  rintro _ h1 n2 ⟨rfl, _⟩ s3 hn2 hf
  refine dk.w ?_
  have hs := hs.trans s3
  have hn := Nat.le_trans hn hn2
  refine dk.op rfl (by kernel_rfl) rfl rfl (Does.bstr0 hf rfl rfl) (keepC (by simp) (keepC (by simp) keepN)) ?_
  rintro _ h4 n5 ⟨rfl, _⟩ s6 hn2 hf
  refine dk.w ?_
  have hs := hs.trans s6
  have hn := Nat.le_trans hn hn2
  refine dk.c (v := .string (⟨#[]⟩)) rfl (by kernel_rfl) rfl rfl rfl rfl ?_
  refine dk.e ?_
  refine AWp.ret ?_
  refine ⟨rfl, [.string (⟨#[]⟩)], rfl, .string (⟨#[]⟩), rfl, hs, hn, ?_⟩
  rfl
end Go.Proofs.YtkpjfibpaojelaaGreatDoor
namespace Go.Proofs
open Go.Shelf
def Tryz.lays156_ren : Go.Shelf.Ren := ⟨fun | 156 => 39 | 165 => 65 | 166 => 62 | 169 => 64 | 240 => 81 | 241 => 84 | 276 => 92 | 277 => 98 | n => n, fun | 31 => 41 | 9 => 9 | 3 => 3 | 4 => 4 | 0 => 0 | 20 => 20 | 72 => 72 | 76 => 76 | 70 => 70 | 37 => 42 | 75 => 74 | 127 => 100 | 164 => 107 | 5 => 5 | 80 => 80 | n => n, fun | n => n⟩
theorem Tryz.lays156 : Go.Proofs.Lays.n156 Tryz.prog Tryz.lays156_ren := {
  mixed := by kernel_rfl
  f156 := Tryz.func39.trans (congrArg some (by kernel_rfl))
  f165 := Tryz.func65.trans (congrArg some (by kernel_rfl))
  f166 := Tryz.func62.trans (congrArg some (by kernel_rfl))
  f169 := Tryz.func64.trans (congrArg some (by kernel_rfl))
  f240 := Tryz.func81.trans (congrArg some (by kernel_rfl))
  f241 := Tryz.func84.trans (congrArg some (by kernel_rfl))
  f276 := Tryz.func92.trans (congrArg some (by kernel_rfl))
  f277 := Tryz.func98.trans (congrArg some (by kernel_rfl))
  t0 := Tryz.underlying0
  a0 := Tryz.isAgg0
  z0 := Tryz.sizeOf0
  v0 := Tryz.zeroValue0
  t3 := Tryz.underlying3
  a3 := Tryz.isAgg3
  z3 := Tryz.sizeOf3
  v3 := Tryz.zeroValue3
  t4 := Tryz.underlying4
  a4 := Tryz.isAgg4
  z4 := Tryz.sizeOf4
  v4 := Tryz.zeroValue4
  t9 := Tryz.underlying9
  a9 := Tryz.isAgg9
  z9 := Tryz.sizeOf9
  v9 := Tryz.zeroValue9
  t20 := Tryz.underlying20
  a20 := Tryz.isAgg20
  z20 := Tryz.sizeOf20
  v20 := Tryz.zeroValue20
  t31 := Tryz.underlying41
  a31 := Tryz.isAgg41
  z31 := Tryz.sizeOf41
  v31 := Tryz.zeroValue41
  t37 := Tryz.underlying42
  a37 := Tryz.isAgg42
  z37 := Tryz.sizeOf42
  v37 := Tryz.zeroValue42
  t70 := Tryz.underlying70
  a70 := Tryz.isAgg70
  z70 := Tryz.sizeOf70
  v70 := Tryz.zeroValue70
  t72 := Tryz.underlying72
  a72 := Tryz.isAgg72
  z72 := Tryz.sizeOf72
  v72 := Tryz.zeroValue72
  t75 := Tryz.underlying74
  a75 := Tryz.isAgg74
  z75 := Tryz.sizeOf74
  v75 := Tryz.zeroValue74
  t76 := Tryz.underlying76
  a76 := Tryz.isAgg76
  z76 := Tryz.sizeOf76
  v76 := Tryz.zeroValue76
  t127 := Tryz.underlying100
  a127 := Tryz.isAgg100
  z127 := Tryz.sizeOf100
  v127 := Tryz.zeroValue100
  t164 := Tryz.underlying107
  a164 := Tryz.isAgg107
  z164 := Tryz.sizeOf107
  v164 := Tryz.zeroValue107 }
theorem Tryz.Builder_Extra_156 : Builder.Extra Tryz.prog Tryz.lays156_ren := {
  sizeBuilder := by kernel_rfl
  liesBuilder := by kernel_rfl
  t5 := Tryz.underlying5
  a5 := Tryz.isAgg5
  z5 := Tryz.sizeOf5
  v5 := Tryz.zeroValue5
  infoByte := by kernel_rfl
  cellsByte := by kernel_rfl
  sizeByte := by kernel_rfl
  neB5 := by decide }
def Tryz.lays160_ren : Go.Shelf.Ren := ⟨fun | 160 => 118 | 232 => 124 | 231 => 123 | 227 => 125 | 234 => 127 | 233 => 126 | 236 => 129 | 235 => 128 | 228 => 132 | 271 => 134 | 151 => 133 | 197 => 101 | 120 => 141 | 152 => 140 | 260 => 110 | 137 => 147 | 119 => 120 | 224 => 116 | 225 => 115 | 217 => 114 | 266 => 121 | n => n, fun | 9 => 9 | 4 => 4 | 3 => 3 | 5 => 5 | 117 => 140 | 116 => 139 | 0 => 0 | 124 => 143 | 21 => 21 | 105 => 116 | 46 => 91 | 119 => 87 | 139 => 90 | 138 => 89 | n => n, fun | 3 => 0 | 4 => 1 | n => n⟩
theorem Tryz.lays160 : Go.Proofs.Lays.n160 Tryz.prog Tryz.lays160_ren := {
  mixed := by kernel_rfl
  f119 := Tryz.func120.trans (congrArg some (by kernel_rfl))
  f120 := Tryz.func141.trans (congrArg some (by kernel_rfl))
  f137 := Tryz.func147.trans (congrArg some (by kernel_rfl))
  f151 := Tryz.func133.trans (congrArg some (by kernel_rfl))
  f152 := Tryz.func140.trans (congrArg some (by kernel_rfl))
  f160 := Tryz.func118.trans (congrArg some (by kernel_rfl))
  f197 := Tryz.func101.trans (congrArg some (by kernel_rfl))
  f217 := Tryz.func114.trans (congrArg some (by kernel_rfl))
  f224 := Tryz.func116.trans (congrArg some (by kernel_rfl))
  f225 := Tryz.func115.trans (congrArg some (by kernel_rfl))
  f227 := Tryz.func125.trans (congrArg some (by kernel_rfl))
  f228 := Tryz.func132.trans (congrArg some (by kernel_rfl))
  f231 := Tryz.func123.trans (congrArg some (by kernel_rfl))
  f232 := Tryz.func124.trans (congrArg some (by kernel_rfl))
  f233 := Tryz.func126.trans (congrArg some (by kernel_rfl))
  f234 := Tryz.func127.trans (congrArg some (by kernel_rfl))
  f235 := Tryz.func128.trans (congrArg some (by kernel_rfl))
  f236 := Tryz.func129.trans (congrArg some (by kernel_rfl))
  f260 := Tryz.func110.trans (congrArg some (by kernel_rfl))
  f266 := Tryz.func121.trans (congrArg some (by kernel_rfl))
  f271 := Tryz.func134.trans (congrArg some (by kernel_rfl))
  t0 := Tryz.underlying0
  a0 := Tryz.isAgg0
  z0 := Tryz.sizeOf0
  v0 := Tryz.zeroValue0
  t3 := Tryz.underlying3
  a3 := Tryz.isAgg3
  z3 := Tryz.sizeOf3
  v3 := Tryz.zeroValue3
  t4 := Tryz.underlying4
  a4 := Tryz.isAgg4
  z4 := Tryz.sizeOf4
  v4 := Tryz.zeroValue4
  t5 := Tryz.underlying5
  a5 := Tryz.isAgg5
  z5 := Tryz.sizeOf5
  v5 := Tryz.zeroValue5
  t9 := Tryz.underlying9
  a9 := Tryz.isAgg9
  z9 := Tryz.sizeOf9
  v9 := Tryz.zeroValue9
  t21 := Tryz.underlying21
  a21 := Tryz.isAgg21
  z21 := Tryz.sizeOf21
  v21 := Tryz.zeroValue21
  t46 := Tryz.underlying91
  a46 := Tryz.isAgg91
  z46 := Tryz.sizeOf91
  v46 := Tryz.zeroValue91
  t105 := Tryz.underlying116
  a105 := Tryz.isAgg116
  z105 := Tryz.sizeOf116
  v105 := Tryz.zeroValue116
  t116 := Tryz.underlying139
  a116 := Tryz.isAgg139
  z116 := Tryz.sizeOf139
  t117 := Tryz.underlying140
  a117 := Tryz.isAgg140
  z117 := Tryz.sizeOf140
  v117 := Tryz.zeroValue140
  t119 := Tryz.underlying87
  a119 := Tryz.isAgg87
  z119 := Tryz.sizeOf87
  t124 := Tryz.underlying143
  a124 := Tryz.isAgg143
  z124 := Tryz.sizeOf143
  v124 := Tryz.zeroValue143
  t138 := Tryz.underlying89
  a138 := Tryz.isAgg89
  z138 := Tryz.sizeOf89
  v138 := Tryz.zeroValue89
  t139 := Tryz.underlying90
  a139 := Tryz.isAgg90
  z139 := Tryz.sizeOf90
  v139 := Tryz.zeroValue90
  g3 := by kernel_rfl
  g4 := by kernel_rfl }
def Tryz.lays119_ren : Go.Shelf.Ren := ⟨fun | 119 => 120 | n => n, fun | 21 => 21 | 4 => 4 | n => n, fun | n => n⟩
theorem Tryz.lays119 : Go.Proofs.Lays.n119 Tryz.prog Tryz.lays119_ren := {
  mixed := by kernel_rfl
  f119 := Tryz.func120.trans (congrArg some (by kernel_rfl))
  t4 := Tryz.underlying4
  a4 := Tryz.isAgg4
  z4 := Tryz.sizeOf4
  v4 := Tryz.zeroValue4
  t21 := Tryz.underlying21
  a21 := Tryz.isAgg21
  z21 := Tryz.sizeOf21
  v21 := Tryz.zeroValue21 }
def Tryz.lays103_ren : Go.Shelf.Ren := ⟨fun | 103 => 85 | 210 => 99 | 206 => 88 | n => n, fun | 9 => 9 | 4 => 4 | 24 => 36 | 3 => 3 | n => n, fun | n => n⟩
theorem Tryz.lays103 : Go.Proofs.Lays.n103 Tryz.prog Tryz.lays103_ren := {
  mixed := by kernel_rfl
  f103 := Tryz.func85.trans (congrArg some (by kernel_rfl))
  f206 := Tryz.func88.trans (congrArg some (by kernel_rfl))
  f210 := Tryz.func99.trans (congrArg some (by kernel_rfl))
  t3 := Tryz.underlying3
  a3 := Tryz.isAgg3
  z3 := Tryz.sizeOf3
  v3 := Tryz.zeroValue3
  t4 := Tryz.underlying4
  a4 := Tryz.isAgg4
  z4 := Tryz.sizeOf4
  v4 := Tryz.zeroValue4
  t9 := Tryz.underlying9
  a9 := Tryz.isAgg9
  z9 := Tryz.sizeOf9
  v9 := Tryz.zeroValue9
  t24 := Tryz.underlying36
  a24 := Tryz.isAgg36
  z24 := Tryz.sizeOf36
  v24 := Tryz.zeroValue36 }
def Tryz.lays219_ren : Go.Shelf.Ren := ⟨fun | 219 => 109 | 217 => 114 | 225 => 115 | 224 => 116 | 267 => 117 | 266 => 121 | 314 => 122 | n => n, fun | 9 => 9 | 3 => 3 | 4 => 4 | 5 => 5 | 46 => 91 | 146 => 135 | 51 => 109 | n => n, fun | 1 => 3 | n => n⟩
theorem Tryz.lays219 : Go.Proofs.Lays.n219 Tryz.prog Tryz.lays219_ren := {
  mixed := by kernel_rfl
  f217 := Tryz.func114.trans (congrArg some (by kernel_rfl))
  f219 := Tryz.func109.trans (congrArg some (by kernel_rfl))
  f224 := Tryz.func116.trans (congrArg some (by kernel_rfl))
  f225 := Tryz.func115.trans (congrArg some (by kernel_rfl))
  f266 := Tryz.func121.trans (congrArg some (by kernel_rfl))
  f267 := Tryz.func117.trans (congrArg some (by kernel_rfl))
  f314 := Tryz.func122.trans (congrArg some (by kernel_rfl))
  t3 := Tryz.underlying3
  a3 := Tryz.isAgg3
  z3 := Tryz.sizeOf3
  v3 := Tryz.zeroValue3
  t4 := Tryz.underlying4
  a4 := Tryz.isAgg4
  z4 := Tryz.sizeOf4
  v4 := Tryz.zeroValue4
  t5 := Tryz.underlying5
  a5 := Tryz.isAgg5
  z5 := Tryz.sizeOf5
  v5 := Tryz.zeroValue5
  t9 := Tryz.underlying9
  a9 := Tryz.isAgg9
  z9 := Tryz.sizeOf9
  v9 := Tryz.zeroValue9
  t46 := Tryz.underlying91
  a46 := Tryz.isAgg91
  z46 := Tryz.sizeOf91
  v46 := Tryz.zeroValue91
  t51 := Tryz.underlying109
  a51 := Tryz.isAgg109
  z51 := Tryz.sizeOf109
  v51 := Tryz.zeroValue109
  t146 := Tryz.underlying135
  a146 := Tryz.isAgg135
  z146 := Tryz.sizeOf135
  v146 := Tryz.zeroValue135
  g1 := by kernel_rfl }
def Tryz.lays99_ren : Go.Shelf.Ren := ⟨fun | 99 => 68 | 206 => 88 | n => n, fun | 9 => 9 | 4 => 4 | 3 => 3 | n => n, fun | n => n⟩
theorem Tryz.lays99 : Go.Proofs.Lays.n99 Tryz.prog Tryz.lays99_ren := {
  mixed := by kernel_rfl
  f99 := Tryz.func68.trans (congrArg some (by kernel_rfl))
  f206 := Tryz.func88.trans (congrArg some (by kernel_rfl))
  t3 := Tryz.underlying3
  a3 := Tryz.isAgg3
  z3 := Tryz.sizeOf3
  v3 := Tryz.zeroValue3
  t4 := Tryz.underlying4
  a4 := Tryz.isAgg4
  z4 := Tryz.sizeOf4
  v4 := Tryz.zeroValue4
  t9 := Tryz.underlying9
  a9 := Tryz.isAgg9
  z9 := Tryz.sizeOf9
  v9 := Tryz.zeroValue9 }
end Go.Proofs
namespace Go.Proofs.YtkpjfibpaojelaaGreatDoor
open Go Go.Abs Go.RowKit
set_option maxRecDepth 100000
set_option maxHeartbeats 4000000
theorem f85_spec {h : Heap} {n : Nat} (s p : ByteArray) : Tells Tryz.prog 85 [.string s, .string p] h n (.tuple #[.string ⟨(Lib.trimPrefix s.data.toList p.data.toList).toArray⟩, .bool (Lib.hasPrefix s.data.toList p.data.toList)]) :=
  Tells.of_calls rfl rfl fun _ w _ => (Any.strings_CutPrefix Tryz.lays103 s p w).mono fun _ _ ⟨h1, h2⟩ => ⟨h1, h2 ▸ Below.refl _ _⟩
theorem f68_spec {h : Heap} {n : Nat} (s p : ByteArray) : Tells Tryz.prog 68 [.string s, .string p] h n (.bool (Lib.hasPrefix s.data.toList p.data.toList)) :=
  Tells.of_calls rfl rfl fun _ w _ => (Any.strings_HasPrefix Tryz.lays99 s p w).mono fun _ _ ⟨h1, h2⟩ => ⟨h1, h2 ▸ Below.refl _ _⟩
theorem f120_spec {h : Heap} {n : Nat} (r : Int) : Tells Tryz.prog 120 [.int .i32 r] h n (.bool (Lib.validRune r)) :=
  Tells.of_calls rfl rfl fun _ w _ => (Any.utf8_ValidRune Tryz.lays119 r w).mono fun _ _ ⟨h1, h2⟩ => ⟨h1, h2 ▸ Below.refl _ _⟩
theorem f109_spec {h : Heap} {n : Nat} (s : ByteArray) (c : UInt8) : Tells Tryz.prog 109 [.string s, .string ⟨#[c]⟩] h n (.int .i64 (Lib.indexByte s.data.toList c)) :=
  Tells.of_calls rfl rfl fun _ w _ => (Any.stringslite_Index_one Tryz.lays219 s c w).mono fun _ _ ⟨h1, h2⟩ => ⟨h1, h2 ▸ Below.refl _ _⟩
abbrev hexS : ByteArray := ⟨#[48, 49, 50, 51, 52, 53, 54, 55, 56, 57, 97, 98, 99, 100, 101, 102]⟩
theorem f118_spec {h : Heap} {n : Nat} (s : ByteArray) (hs : s.data.toList.length < 9223372036854775807) : Tells Tryz.prog 118 [.string s, .string hexS] h n (.string ⟨(Lib.trimS s.data.toList hexS.data.toList).toArray⟩) :=
  Tells.of_calls rfl rfl fun _ w _ => Any.strings_Trim_laid Tryz.lays160 (by kernel_rfl) s hexS w (by simp at hs; omega) (by decide) (ascii_of_all (by decide))
def encStr : Enc ByteArray := ⟨1, fun s => [.string s], fun _ => rfl, by decide⟩
theorem str_row (xs : List ByteArray) : encStr.row xs = xs.map Value.string := by
  unfold Enc.row
  induction xs with
  | nil => rfl
  | cons b r ih => rw [List.flatMap_cons, List.map_cons, ih]; rfl
theorem tells_of_calls {P : Program} {f : FuncId} {args : List Value} {h : Heap} {n : Nat} {v : Value} (hv : flat v = true)
    (c : ∀ μ args' w, ARel μ args.toArray args' → Rel P μ h n w → Calls P f args' w fun e w' => e = .returned v ∧ Below w.heap.size w w') : Tells P f args h n v := by
  intro μ args' w ha hr
  refine (c μ args' w ha hr).mono ?_
  rintro e w' ⟨rfl, hb⟩
  refine ⟨μ, h, n, .ret v, .ret (.flat_self hv), ⟨?_, hr.sep, hr.bound, hr.glob⟩, ⟨μ.le_refl, hb.size, hb.os, hb.tape, hb.output, fun c hc _ => hb.block c hc, fun b' o' m' a b c _ => ⟨b', o', m', a, b, c, rfl⟩⟩, Nat.le_refl _, rfl, rfl, Nat.le_refl _⟩
  intro b o ho
  obtain ⟨m, x, h1, h2, h3⟩ := hr.obj b o ho
  have hlt : m.blk < w.heap.size := (Array.getElem?_eq_some_iff.1 h2).1
  exact ⟨m, x, h1, by rw [hb.block _ hlt]; exact h2, h3⟩
theorem f39_spec {h : Heap} {n : Nat} {a : Option Addr} {cp : Nat} (xs : List ByteArray) (sep : ByteArray) (q : IsRow encStr h (.slice a xs.length cp) xs) (hN : xs.length ≤ 100000) (hlen : (Lib.join (xs.map (·.data.toList)) sep.data.toList).length ≤ 140737488355328) :
    Tells Tryz.prog 39 [.slice a xs.length cp, .string sep] h n (.string ⟨(Lib.join (xs.map (·.data.toList)) sep.data.toList).toArray⟩) := by
  refine tells_of_calls rfl ?_
  intro μ args' w ha hr
  obtain ⟨v', w2, e1, e2, e3⟩ : ∃ v' w2, args' = #[v', w2] ∧ VRel μ (.slice a xs.length cp) v' ∧ VRel μ (.string sep) w2 := by
    obtain ⟨hs, hx⟩ := ha
    have hs2 : args'.size = 2 := by rw [← hs]; rfl
    obtain ⟨v', hv⟩ : ∃ v', args'[0]? = some v' := ⟨_, Array.getElem?_eq_getElem (by omega)⟩
    obtain ⟨w2, hw⟩ : ∃ w2, args'[1]? = some w2 := ⟨_, Array.getElem?_eq_getElem (by omega)⟩
    refine ⟨v', w2, ?_, hx 0 _ _ rfl hv, hx 1 _ _ rfl hw⟩
    apply Array.ext_getElem?
    intro i
    match i with
    | 0 => rw [hv]; rfl
    | 1 => rw [hw]; rfl
    | i + 2 => rw [Array.getElem?_eq_none (by omega)]; rfl
  subst e1
  cases e3
  rcases q with ⟨rfl, hv | ⟨b, o, cap, hv⟩⟩ | ⟨b, o, cap, cs, own, ci, hv, h1, h2, h3, h4⟩
  · cases hv
    cases e2
    exact (Any.strings_Join_none Tryz.lays156 Tryz.Builder_Extra_156 none 0 sep w).mono fun _ _ ⟨h1, h2⟩ => ⟨h1, h2 ▸ Below.refl _ _⟩
  · cases hv
    cases e2 with
    | slice o len cap cap' hm hc => exact (Any.strings_Join_none Tryz.lays156 Tryz.Builder_Extra_156 _ _ sep w).mono fun _ _ ⟨h1, h2⟩ => ⟨h1, h2 ▸ Below.refl _ _⟩
  · cases hv
    cases e2 with
    | slice o len cap cap' hm hc =>
      rename_i m
      obtain ⟨m', x, g1, g2, g3⟩ := hr.obj b _ h2
      rw [hm] at g1
      cases g1
      cases x with
      | cells c el fr =>
        obtain ⟨k1, k2, k3, _⟩ := g3
        have hk : encStr.k = 1 := rfl
        rw [hk, Nat.one_mul] at h3 h4
        have hlt := (Array.getElem?_eq_some_iff.1 g2).1
        refine Any.strings_Join Tryz.lays156 Tryz.Builder_Extra_156 m.blk (m.off + o) cap' xs sep w ?_ hlt (by omega) ?_ hlen
        · intro j s hj
          have hjl := (List.getElem?_eq_some_iff.1 hj).1
          have hc : cs[o + j]? = some (.string s) := by
            have e := congrArg (fun l : List Value => l[j]?) h3
            simp only [str_row] at e
            rw [List.getElem?_take, if_pos hjl, List.getElem?_drop, List.getElem?_map, hj] at e
            exact e
          obtain ⟨v', q1, q2⟩ := k3 _ _ hc
          have := q2.flat_eq rfl
          subst this
          rw [cell_of_block g2, show m.off + o + j = m.off + (o + j) by omega]
          exact q1
        · rcases hc with ⟨h5, h6⟩ | ⟨h5, h6, _⟩ <;> omega
      | _ => exact g3.elim
end Go.Proofs.YtkpjfibpaojelaaGreatDoor
namespace Go.Proofs.YtkpjfibpaojelaaGreatDoor
open Go Go.Abs
set_option maxRecDepth 100000
set_option maxHeartbeats 4000000
def cutA (l : List UInt8) (c : UInt8) : List UInt8 := l.takeWhile (· != c)
def cutT (l : List UInt8) (c : UInt8) : List UInt8 := (l.dropWhile (· != c)).tail
theorem idx_cut (c : UInt8) : ∀ l : List UInt8, (Lib.indexByte l c = -1 ∧ cutA l c = l ∧ cutT l c = [] ∧ l.contains c = false) ∨
    ∃ i : Nat, Lib.indexByte l c = i ∧ i < l.length ∧ cutA l c = l.take i ∧ cutT l c = l.drop (i + 1) ∧ l.contains c = true
  | [] => .inl ⟨rfl, rfl, rfl, rfl⟩
  | b :: l => by
    by_cases hb : b = c
    · subst hb
      refine .inr ⟨0, by simp [Lib.indexByte], by simp, by simp [cutA], by simp [cutT], by simp⟩
    · have e1 : (b == c) = false := by simpa using hb
      have e2 : (b != c) = true := by simpa using hb
      have e3 : (c == b) = false := by simpa using fun e => hb e.symm
      rcases idx_cut c l with ⟨h1, h2, h3, h4⟩ | ⟨i, h1, h2, h3, h4, h5⟩
      · refine .inl ⟨by simp [Lib.indexByte, e1, h1], ?_, ?_, ?_⟩
        · unfold cutA at *; rw [List.takeWhile_cons, e2, if_pos rfl, h2]
        · unfold cutT at *; rw [List.dropWhile_cons, e2, if_pos rfl, h3]
        · rw [List.contains_cons, e3, h4]; rfl
      · refine .inr ⟨i + 1, ?_, by simp; omega, ?_, ?_, ?_⟩
        · have : ¬ Lib.indexByte l c = -1 := by omega
          simp [Lib.indexByte, e1, this, h1]
        · unfold cutA at *; rw [List.takeWhile_cons, e2, if_pos rfl, h3]; rfl
        · unfold cutT at *; rw [List.dropWhile_cons, e2, if_pos rfl, h4]; rfl
        · rw [List.contains_cons, h5, Bool.or_true]
theorem idx_rng (l : List UInt8) (c : UInt8) : -1 ≤ Lib.indexByte l c ∧ Lib.indexByte l c < (l.length : Nat) := by
  rcases idx_cut c l with ⟨h1, _⟩ | ⟨i, h1, h2, _⟩ <;> omega
theorem subT {s : ByteArray} {i : Int} (_h0 : 0 ≤ i) : sub s 0 i = strB (s.data.toList.take i.toNat) := by simp [sub, sliceS]
theorem subD {s : ByteArray} {i : Int} : sub s i ((s.data.toList.length : Nat) : Int) = strB (s.data.toList.drop i.toNat) := by
  apply ByteArray.ext
  apply Array.ext'
  simp only [sub, sliceS, Int.toNat_natCast]
  exact List.take_of_length_le (by rw [List.length_drop]; omega)
theorem cut_yes {s : ByteArray} {c : UInt8} (h : 0 ≤ Lib.indexByte s.data.toList c) :
    sub s 0 (Lib.indexByte s.data.toList c) = strB (cutA s.data.toList c) ∧ sub s (Lib.indexByte s.data.toList c + 1) ((s.data.toList.length : Nat) : Int) = strB (cutT s.data.toList c) ∧ s.data.toList.contains c = true := by
  rcases idx_cut c s.data.toList with ⟨h1, _⟩ | ⟨i, h1, h2, h3, h4, h5⟩
  · omega
  · rw [h3, h4, subT h, subD, h1]
    exact ⟨by rw [Int.toNat_natCast], by rw [show ((i : Int) + 1).toNat = i + 1 by omega], h5⟩
theorem cut_no {s : ByteArray} {c : UInt8} (h : ¬ 0 ≤ Lib.indexByte s.data.toList c) : s = strB (cutA s.data.toList c) ∧ (⟨#[]⟩ : ByteArray) = strB (cutT s.data.toList c) ∧ s.data.toList.contains c = false := by
  rcases idx_cut c s.data.toList with ⟨h1, h2, h3, h4⟩ | ⟨i, h1, _⟩
  · rw [h2, h3]; exact ⟨rfl, rfl, h4⟩
  · omega
theorem trim_yes {l p : List UInt8} (h : Lib.hasPrefix l p = true) : Lib.trimPrefix l p = l.drop p.length := by unfold Lib.trimPrefix; rw [if_pos h]
theorem f100_spec {h : Heap} {n : Nat} (s : ByteArray) (c : UInt8) (hls : s.data.toList.length < 9223372036854775807) :
    Tells Tryz.prog 100 [.string (s), .string (⟨#[c]⟩)] h n (.tuple #[.string (strB (cutA s.data.toList c)), .string (strB (cutT s.data.toList c)), .bool (s.data.toList.contains c)]) := by
  refine Makes.tells (Makes.free fun hf => ?_)
  have hix := idx_rng s.data.toList c
  have hs : SubBut h h ([]) := .refl _ _
  have hn : n ≤ n := Nat.le_refl _
  have hf0 := hf
  refine Makes.of_bodyV (args := [.string (s), .string (⟨#[c]⟩)]) (vs := [.string (s), .string (⟨#[c]⟩), undef, undef, undef, undef, undef, undef, undef, undef, undef, undef, undef, undef, undef, undef, undef, undef, undef, undef, undef, undef, undef]) Tryz.func100 rfl rfl ?_
  refine AWp.seq (AWp.rowV (l := _) pok ?_)
  refine sq.c (v := .string (⟨#[]⟩)) rfl rfl rfl rfl ?_
  refine sq.c (v := .string (⟨#[]⟩)) rfl rfl rfl rfl ?_
  refine sq.c (v := .bool false) rfl rfl rfl rfl ?_
  refine sq.e (AWp.seq (AWp.seq (AWp.rowV (l := _) pok ?_)))
  refine sq.c (v := .string (s)) rfl rfl rfl rfl ?_
  refine sq.c (v := .string (⟨#[c]⟩)) rfl rfl rfl rfl ?_
  refine sq.t (v := .int .i64 (Lib.indexByte s.data.toList c)) rfl (CallsF.fn rfl (by kernel_rfl) rfl rfl) (fun hf => f109_spec s c) hf rfl ?_
  intro n1 hn2 hf
  have hn := Nat.le_trans hn hn2
  refine sq.c (v := .int .i64 (Lib.indexByte s.data.toList c)) rfl rfl rfl rfl ?_
  refine sq.e (AWp.seq (AWp.rowV (l := _) pok ?_))
  refine sq.c (v := .int .i64 (Lib.indexByte s.data.toList c)) rfl rfl rfl rfl ?_
  refine sq.c (v := .bool (decide ((0 : Int) ≤ (Lib.indexByte s.data.toList c)))) rfl rfl rfl rfl ?_
  refine sq.e ?_
  by_cases c2_1 : (0 : Int) ≤ (Lib.indexByte s.data.toList c)
  · rw [decide_eq_true c2_1]
    refine AWp.condT rfl rfl ?_
    refine AWp.seq ?_
    refine AWp.anyV pok [] [0, 1, 2, 3, 4, 5, 6, 7, 8, 9, 10, 11] (by kernel_rfl) (by kernel_rfl) rfl (fun x fr fr' h n hd _ q => ⟨hd ▸ q.1, q.2⟩) ?_
    refine dq.c (v := .string (s)) rfl (by kernel_rfl) rfl rfl rfl rfl ?_
    refine dq.c (v := .int .i64 (Lib.indexByte s.data.toList c)) rfl (by kernel_rfl) rfl rfl rfl rfl ?_
    refine dq.c (v := .string (sub (s) (0) (Lib.indexByte s.data.toList c))) rfl (by kernel_rfl) rfl rfl (slice_str (P := Tryz.prog) (h := h) (t := 9) (s := s) (l := 0) (u := Lib.indexByte s.data.toList c) (by kernel_rfl) (.inl ⟨rfl, rfl⟩) (.inr ⟨_, rfl⟩) (by omega) (by omega) (by omega)) rfl ?_
    refine dq.c (v := .string (s)) rfl (by kernel_rfl) rfl rfl rfl rfl ?_
    refine dq.c (v := .int .i64 (Lib.indexByte s.data.toList c)) rfl (by kernel_rfl) rfl rfl rfl rfl ?_
    refine dq.c (v := .string (⟨#[c]⟩)) rfl (by kernel_rfl) rfl rfl rfl rfl ?_
    refine dq.c (v := .int .i64 (1)) rfl (by kernel_rfl) rfl rfl (by kernel_rfl) rfl ?_
    refine dq.c (v := .int .i64 ((Lib.indexByte s.data.toList c) + 1)) rfl (by kernel_rfl) rfl rfl (okI (wrap_i64 (by omega) (by omega))) rfl ?_
    refine dq.c (v := .string (sub (s) ((Lib.indexByte s.data.toList c) + 1) ((((s).data.toList.length : Nat) : Int)))) rfl (by kernel_rfl) rfl rfl (slice_str (P := Tryz.prog) (h := h) (t := 9) (s := s) (l := (Lib.indexByte s.data.toList c) + 1) (u := (((s).data.toList.length : Nat) : Int)) (by kernel_rfl) (.inr ⟨_, rfl⟩) (.inl ⟨rfl, rfl⟩) (by omega) (by omega) (by omega)) rfl ?_
    refine dq.c (v := .string (sub (s) (0) (Lib.indexByte s.data.toList c))) rfl (by kernel_rfl) rfl rfl rfl rfl ?_
    refine dq.c (v := .string (sub (s) ((Lib.indexByte s.data.toList c) + 1) ((((s).data.toList.length : Nat) : Int)))) rfl (by kernel_rfl) rfl rfl rfl rfl ?_
    refine dq.c (v := .bool true) rfl (by kernel_rfl) rfl rfl rfl rfl ?_
    refine dq.e ?_
    refine AWp.ret ?_
    refine ⟨rfl, [.string (sub (s) (0) (Lib.indexByte s.data.toList c)), .string (sub (s) ((Lib.indexByte s.data.toList c) + 1) ((((s).data.toList.length : Nat) : Int))), .bool true], rfl, .tuple #[.string (sub (s) (0) (Lib.indexByte s.data.toList c)), .string (sub (s) ((Lib.indexByte s.data.toList c) + 1) ((((s).data.toList.length : Nat) : Int))), .bool true], rfl, hs, hn, ?_⟩
    obtain ⟨e1, e2, e3⟩ := cut_yes c2_1
    rw [e1, e2, e3]
  · rw [decide_eq_false c2_1]
    refine AWp.condF rfl rfl ?_
    refine AWp.skip (AWp.seq (AWp.rowV (l := _) pok ?_))
    refine sq.c (v := .string (s)) rfl rfl rfl rfl ?_
    refine sq.c (v := .string (s)) rfl rfl rfl rfl ?_
    refine sq.c (v := .string (⟨#[]⟩)) rfl rfl rfl rfl ?_
    refine sq.c (v := .bool false) rfl rfl rfl rfl ?_
    refine sq.e ?_
    refine AWp.ret ?_
    refine ⟨rfl, [.string (s), .string (⟨#[]⟩), .bool false], rfl, .tuple #[.string (s), .string (⟨#[]⟩), .bool false], rfl, hs, hn, ?_⟩
    obtain ⟨e1, e2, e3⟩ := cut_no c2_1
    rw [← e1, ← e2, e3]
theorem f86_spec {h : Heap} {n : Nat} (s : ByteArray) (c : UInt8) (hls : s.data.toList.length < 9223372036854775807) :
    Tells Tryz.prog 86 [.string (s), .string (⟨#[c]⟩)] h n (.tuple #[.string (strB (cutA s.data.toList c)), .string (strB (cutT s.data.toList c)), .bool (s.data.toList.contains c)]) := by
  refine Makes.tells (Makes.free fun hf => ?_)
  have hs : SubBut h h ([]) := .refl _ _
  have hn : n ≤ n := Nat.le_refl _
  have hf0 := hf
  refine Makes.of_bodyV (args := [.string (s), .string (⟨#[c]⟩)]) (vs := [.string (s), .string (⟨#[c]⟩), undef, undef, undef, undef, undef, undef, undef, undef, undef, undef, undef]) Tryz.func86 rfl rfl ?_
  refine AWp.seq (AWp.rowV (l := _) pok ?_)
  refine sq.c (v := .string (⟨#[]⟩)) rfl rfl rfl rfl ?_
  refine sq.c (v := .string (⟨#[]⟩)) rfl rfl rfl rfl ?_
  refine sq.c (v := .bool false) rfl rfl rfl rfl ?_
  refine sq.e (AWp.seq (AWp.rowV (l := _) pok ?_))
  refine sq.c (v := .string (s)) rfl rfl rfl rfl ?_
  refine sq.c (v := .string (⟨#[c]⟩)) rfl rfl rfl rfl ?_
  refine sq.t (v := .tuple #[.string (strB (cutA s.data.toList c)), .string (strB (cutT s.data.toList c)), .bool (s.data.toList.contains c)]) rfl (CallsF.fn rfl (by kernel_rfl) rfl rfl) (fun hf => f100_spec s c hls) hf rfl ?_
  intro n1 hn2 hf
  have hn := Nat.le_trans hn hn2
  refine sq.c (v := .string (strB (cutA s.data.toList c))) rfl rfl rfl rfl ?_
  refine sq.c (v := .string (strB (cutT s.data.toList c))) rfl rfl rfl rfl ?_
  refine sq.c (v := .bool (s.data.toList.contains c)) rfl rfl rfl rfl ?_
  refine sq.c (v := .string (strB (cutA s.data.toList c))) rfl rfl rfl rfl ?_
  refine sq.c (v := .string (strB (cutT s.data.toList c))) rfl rfl rfl rfl ?_
  refine sq.c (v := .bool (s.data.toList.contains c)) rfl rfl rfl rfl ?_
  refine sq.e ?_
  refine AWp.ret ?_
  refine ⟨rfl, [.string (strB (cutA s.data.toList c)), .string (strB (cutT s.data.toList c)), .bool (s.data.toList.contains c)], rfl, .tuple #[.string (strB (cutA s.data.toList c)), .string (strB (cutT s.data.toList c)), .bool (s.data.toList.contains c)], rfl, hs, hn, ?_⟩
  rfl
theorem f66_spec {h : Heap} {n : Nat} {b : Nat} {ci : CI} (l : List UInt8) (hb : h.get b = some (.cells [.string (strB l)] true ci)) (p : ByteArray) :
    Throws Tryz.prog 66 [.pointer (some ⟨b, 0, none⟩), .string (p)] h n ([b]) (fun v h2 _ => v = undef ∧ Lib.hasPrefix l p.data.toList = true ∧ h2.get b = some (.cells [.string (strB (l.drop p.data.toList.length))] true ci)) (WRONG) (Lib.hasPrefix l p.data.toList = false) := by
  refine Throws.free fun hf => ?_
  have hs : SubBut h h ([b]) := .refl _ _
  have hn : n ≤ n := Nat.le_refl _
  have hf0 := hf
  refine Throws.of_bodyV (args := [.pointer (some ⟨b, 0, none⟩), .string (p)]) (vs := [.pointer (some ⟨b, 0, none⟩), .string (p), undef, undef, undef, undef, undef, undef, undef, undef, undef, undef, undef, undef, undef, undef, undef, undef, undef, undef, undef]) Tryz.func66 rfl rfl ?_
  refine AWp.seq (AWp.rowV (l := _) pok ?_)
  refine sq.c (v := .pointer (some ⟨b, 0, none⟩)) rfl rfl rfl rfl ?_
  refine sq.c (v := .pointer (some ⟨b, 0, none⟩)) rfl rfl rfl rfl ?_
  refine sq.c (v := .pointer (some ⟨b, 0, none⟩)) rfl rfl (by kernel_rfl) rfl ?_
  refine sq.c (v := .string (strB l)) rfl rfl (ld1 (P := Tryz.prog) (t := 9) (p := 0) (v := .string (strB l)) (by kernel_rfl) (by kernel_rfl) hb rfl) rfl ?_
  refine sq.c (v := .string (p)) rfl rfl rfl rfl ?_
  refine sq.t (v := .tuple #[.string (strB (Lib.trimPrefix l p.data.toList)), .bool (Lib.hasPrefix l p.data.toList)]) rfl (CallsF.fn rfl (by kernel_rfl) rfl rfl) (fun hf => f85_spec (strB l) p) hf rfl ?_
  intro n1 hn2 hf
  have hn := Nat.le_trans hn hn2
  refine sq.c (v := .tuple #[.string (strB (Lib.trimPrefix l p.data.toList)), .bool (Lib.hasPrefix l p.data.toList)]) rfl rfl rfl rfl ?_
  refine sq.c (v := .string (strB (Lib.trimPrefix l p.data.toList))) rfl rfl rfl rfl ?_
  refine sq.c (v := .bool (Lib.hasPrefix l p.data.toList)) rfl rfl rfl rfl ?_
  refine sq.c (v := .string (strB (Lib.trimPrefix l p.data.toList))) rfl rfl rfl rfl ?_
  refine sq.c (v := .bool (Lib.hasPrefix l p.data.toList)) rfl rfl rfl rfl ?_
  refine sq.e (AWp.seq (AWp.rowV (l := _) pok ?_))
  refine sq.c (v := .bool (Lib.hasPrefix l p.data.toList)) rfl rfl rfl rfl ?_
  refine sq.x rfl (CallsF.fn rfl (by kernel_rfl) rfl rfl) (f69_spec (Lib.hasPrefix l p.data.toList)) ?_ ?_
  · intro h2 n3 T_ s4 hn2
    have hs := hs.trans (s4.mono (by simp))
    refine ⟨rfl, .inr ⟨rfl, hs, Nat.le_trans hn hn2, ?_⟩⟩
    exact T_
  · rintro _ h2 n3 ⟨rfl, m_1⟩ s4 hn2 hf
    refine sq.w ?_
    have hb := s4.sub _ _ hb
    have hs := hs.trans (s4.mono (by simp))
    have hn := Nat.le_trans hn hn2
    refine sq.e (AWp.rowV (l := _) pok ?_)
    refine sq.c (v := .pointer (some ⟨b, 0, none⟩)) rfl rfl rfl rfl ?_
    refine sq.c (v := .string (strB (Lib.trimPrefix l p.data.toList))) rfl rfl rfl rfl ?_
    refine sq.c (v := .pointer (some ⟨b, 0, none⟩)) rfl rfl rfl rfl ?_
    refine sq.c (v := .pointer (some ⟨b, 0, none⟩)) rfl rfl (by kernel_rfl) rfl ?_
    refine sq.op rfl rfl (Does.store (k := 1) (xs := [.string (strB (Lib.trimPrefix l p.data.toList))]) (cs' := [.string (strB (Lib.trimPrefix l p.data.toList))]) hf (by kernel_rfl) rfl rfl rfl hb rfl rfl (Nat.le_of_ble_eq_true rfl) rfl) ?_
    rintro _ h6 n7 ⟨rfl, hb5⟩ s8 hn2 hf
    refine sq.w0 ?_
    have hs := hs.at (by simp) s8
    have hn := Nat.le_trans hn hn2
    refine sq.e ?_
    refine ⟨rfl, [], rfl, .inl ⟨undef, rfl, hs, hn, ?_⟩⟩
    rw [trim_yes m_1] at hb5
    exact ⟨rfl, m_1, hb5⟩
def isHexB (b : UInt8) : Bool := hexS.data.toList.contains b
def hexD (b : UInt8) : Nat := if b.toNat < 58 then b.toNat - 48 else b.toNat - 87
def hexV (l : List UInt8) : Nat := l.foldl (fun n b => n * 16 + hexD b) 0
theorem hex_rng {b : UInt8} (h : isHexB b = true) : (48 ≤ b.toNat ∧ b.toNat ≤ 57) ∨ (97 ≤ b.toNat ∧ b.toNat ≤ 102) := by
  have key : ∀ n : Fin 256, isHexB (UInt8.ofNat n.val) = true → (48 ≤ n.val ∧ n.val ≤ 57) ∨ (97 ≤ n.val ∧ n.val ≤ 102) := by decide +kernel
  have := key ⟨b.toNat, b.toNat_lt⟩ (by simpa using h)
  exact this
theorem hexD_lt {b : UInt8} (h : isHexB b = true) : hexD b < 16 := by
  have := hex_rng h
  unfold hexD
  split <;> omega
theorem hexV_snoc (l : List UInt8) (x : UInt8) : hexV (l ++ [x]) = hexV l * 16 + hexD x := by unfold hexV; rw [List.foldl_append]; rfl
theorem hexV_lt : ∀ (k : Nat) (l : List UInt8), l.length = k → l.all isHexB = true → hexV l < 16 ^ k := by
  intro k
  induction k with
  | zero => intro l hl _; rw [List.eq_nil_of_length_eq_zero hl]; decide
  | succ k ih =>
    intro l hl ha
    obtain ⟨m, x, rfl⟩ : ∃ m x, l = m ++ [x] := by
      have hne : l ≠ [] := List.ne_nil_of_length_pos (by omega)
      exact ⟨l.dropLast, l.getLast hne, (List.dropLast_concat_getLast hne).symm⟩
    rw [List.length_append, List.length_singleton] at hl
    rw [List.all_append, Bool.and_eq_true, List.all_cons, Bool.and_eq_true] at ha
    have h1 := ih m (by omega) ha.1
    have h2 := hexD_lt ha.2.1
    rw [hexV_snoc, Nat.pow_succ]
    omega
theorem hexV_step {l : List UInt8} {i : Nat} {x : UInt8} (h : l[i]? = some x) : hexV (l.take (i + 1)) = hexV (l.take i) * 16 + hexD x := by
  obtain ⟨hi, rfl⟩ := List.getElem?_eq_some_iff.1 h
  rw [List.take_succ_eq_append_getElem hi, hexV_snoc]
theorem hexV_six {l : List UInt8} (hl : l.length ≤ 6) (ha : l.all isHexB = true) : hexV l < 16777216 := by
  have h1 := hexV_lt _ l rfl ha
  have : 16 ^ l.length ≤ 16 ^ 6 := Nat.pow_le_pow_right (by decide) hl
  omega
theorem all_take {l : List UInt8} {i : Nat} (ha : l.all isHexB = true) : (l.take i).all isHexB = true := by
  rw [List.all_eq_true] at *
  exact fun x hx => ha x (List.mem_of_mem_take hx)
theorem or32 : ∀ x, 97 ≤ x → x < 123 → x ||| 32 = x := by
  have : ∀ x, x < 123 → 97 ≤ x → x ||| 32 = x := by decide +kernel
  exact fun x a b => this x b a
theorem or_low {x : Int} (h0 : 97 ≤ x) (h1 : x < 123) {c : Bool} : binE Tryz.prog .or 5 false c (.int .u8 x) (.int .u8 32) = some (.int .u8 x) := by
  obtain ⟨y, rfl⟩ : ∃ y : Nat, x = y := ⟨x.toNat, by omega⟩
  have e : (BitVec.ofInt IntKind.u8.bits (y : Int) ||| BitVec.ofInt IntKind.u8.bits ((32 : Nat) : Int)).toNat = y ||| 32 := by
    show (BitVec.ofInt 8 (y : Int) ||| BitVec.ofInt 8 ((32 : Nat) : Int)).toNat = _
    rw [ofInt8, ofInt8, BitVec.toNat_or, BitVec.toNat_ofNat, BitVec.toNat_ofNat, Nat.mod_eq_of_lt (by omega), Nat.mod_eq_of_lt (by omega)]
  show some (Value.int .u8 (IntKind.u8.wrap _)) = _
  rw [show (32 : Int) = ((32 : Nat) : Int) from rfl, e, or32 y (by omega) (by omega), wrap_u8 (by omega) (by omega)]
theorem bt_hex {l : List UInt8} (ha : l.all isHexB = true) (hl : 0 < l.length) : (48 ≤ bt (strB l) 0 ∧ bt (strB l) 0 ≤ 57) ∨ (97 ≤ bt (strB l) 0 ∧ bt (strB l) 0 ≤ 102) := by
  cases l with
  | nil => simp at hl
  | cons x r =>
    rw [List.all_cons, Bool.and_eq_true] at ha
    have := hex_rng ha.1
    show (48 ≤ (x.toNat : Int) ∧ (x.toNat : Int) ≤ 57) ∨ (97 ≤ (x.toNat : Int) ∧ (x.toNat : Int) ≤ 102)
    omega
theorem hexD_or (b : UInt8) : (b.toNat < 58 ∧ hexD b = b.toNat - 48) ∨ (58 ≤ b.toNat ∧ hexD b = b.toNat - 87) := by
  unfold hexD; split <;> omega
theorem f142_spec {h : Heap} {n : Nat} (c : Int) (h0 : 97 ≤ c) (h1 : c < 123) :
    Tells Tryz.prog 142 [.int .u8 (c)] h n (.int .u8 c) := by
  refine Makes.tells (Makes.free fun hf => ?_)
  have hs : SubBut h h ([]) := .refl _ _
  have hn : n ≤ n := Nat.le_refl _
  have hf0 := hf
  refine Makes.of_bodyV (args := [.int .u8 (c)]) (vs := [.int .u8 (c), undef, undef, undef, undef]) Tryz.func142 rfl rfl ?_
  refine AWp.seq (AWp.rowV (l := _) pok ?_)
  refine sq.c (v := .int .u8 (0)) rfl rfl rfl rfl ?_
  refine sq.e (AWp.seq (AWp.rowV (l := _) pok ?_))
  refine sq.c (v := .int .u8 (c)) rfl rfl rfl rfl ?_
  refine sq.c (v := .int .u8 (c)) rfl rfl (or_low (c := true) h0 h1) rfl ?_
  refine sq.c (v := .int .u8 (c)) rfl rfl rfl rfl ?_
  refine sq.e ?_
  refine AWp.ret ?_
  refine ⟨rfl, [.int .u8 (c)], rfl, .int .u8 (c), rfl, hs, hn, ?_⟩
  rfl
theorem f135_spec {h : Heap} {n : Nat} (l : List UInt8) (h0 : 0 < l.length) (h6 : l.length ≤ 6) (ha : l.all isHexB = true) :
    Tells Tryz.prog 135 [.string (strB l), .int .i64 (16), .int .i64 (32)] h n (.tuple #[.int .u64 ((hexV l : Nat) : Int), .nilIface]) := by
  refine Makes.tells (Makes.free fun hf => ?_)
  have hv := hexV_six h6 ha
  have hl6 : (strB l).data.toList.length = l.length := rfl
  have hne : ¬ strB l = (⟨#[]⟩ : ByteArray) := fun e => by have := congrArg (fun s : ByteArray => s.data.toList.length) e; simp at this; subst this; simp at h0
  have hs : SubBut h h ([]) := .refl _ _
  have hn : n ≤ n := Nat.le_refl _
  have hf0 := hf
  refine Makes.of_bodyV (args := [.string (strB l), .int .i64 (16), .int .i64 (32)]) (vs := [.string (strB l), .int .i64 (16), .int .i64 (32), undef, undef, undef, undef, undef, undef, undef, undef, undef, undef, undef, undef, undef, undef, undef, undef, undef, undef, undef, undef, undef, undef, undef, undef, undef, undef, undef, undef, undef, undef, undef, undef, undef, undef, undef, undef, undef, undef, undef, undef, undef, undef, undef, undef, undef, undef, undef, undef, undef, undef, undef, undef, undef, undef, undef, undef, undef, undef, undef, undef, undef, undef, undef, undef, undef, undef, undef, undef, undef, undef, undef, undef, undef, undef, undef, undef, undef, undef, undef, undef, undef, undef, undef, undef, undef, undef, undef, undef, undef, undef, undef, undef, undef, undef, undef, undef, undef, undef, undef, undef, undef, undef, undef, undef, undef, undef, undef, undef, undef, undef, undef, undef, undef, undef, undef, undef, undef, undef, undef, undef, undef, undef, undef, undef, undef, undef, undef, undef, undef, undef, undef, undef, undef, undef, undef, undef, undef, undef, undef, undef, undef, undef, undef, undef, undef, undef, undef, undef, undef, undef, undef, undef, undef, undef, undef, undef, undef, undef, undef, undef, undef, undef, undef, undef, undef, undef, undef, undef, undef]) Tryz.func135 rfl rfl ?_
  refine AWp.seq (AWp.rowV (l := _) pok ?_)
  refine sq.c (v := .int .u64 (0)) rfl rfl rfl rfl ?_
  refine sq.c (v := .nilIface) rfl rfl rfl rfl ?_
  refine sq.e (AWp.seq (AWp.seq (AWp.rowV (l := _) pok ?_)))
  refine sq.c (v := .string (strB l)) rfl rfl rfl rfl ?_
  refine sq.c (v := .bool (decide (strB l = (⟨#[]⟩ : ByteArray)))) rfl rfl (eqD _ _) rfl ?_
  refine sq.e ?_
  by_cases c1_1 : strB l = (⟨#[]⟩ : ByteArray)
  · exfalso
    exact hne c1_1
  · rw [decide_eq_false c1_1]
    refine AWp.condF rfl rfl ?_
    refine AWp.skip (AWp.seq (AWp.rowV (l := _) pok ?_))
    refine sq.c (v := .int .i64 (16)) rfl rfl rfl rfl ?_
    refine sq.c (v := .bool false) rfl rfl rfl rfl ?_
    refine sq.c (v := .bool false) rfl rfl rfl rfl ?_
    refine sq.e (AWp.seq (AWp.rowV (l := _) pok ?_))
    refine sq.c (v := .string (strB l)) rfl rfl rfl rfl ?_
    refine sq.c (v := .string (strB l)) rfl rfl rfl rfl ?_
    refine sq.e (AWp.seq (AWp.block (AWp.seq (AWp.rowV (l := _) pok ?_))))
    refine sq.c (v := .int .i64 (16)) rfl rfl rfl rfl ?_
    refine sq.c (v := .bool true) rfl rfl rfl rfl ?_
    refine sq.c (v := .bool true) rfl rfl rfl rfl ?_
    refine sq.c (v := .int .i64 (16)) (wantT (g := 2) (d := 28) rfl rfl rfl) rfl rfl rfl ?_
    refine sq.c (v := .bool true) (wantT (g := 2) (d := 28) rfl rfl rfl) rfl rfl rfl ?_
    refine sq.c (v := .bool true) rfl rfl rfl rfl ?_
    refine sq.c (v := .bool true) rfl rfl rfl rfl ?_
    refine sq.e ?_
    refine AWp.condT rfl rfl ?_
    refine AWp.skip (AWp.seq (AWp.seq (AWp.rowV (l := _) pok ?_)))
    refine sq.c (v := .int .i64 (32)) rfl rfl rfl rfl ?_
    refine sq.c (v := .bool false) rfl rfl rfl rfl ?_
    refine sq.e ?_
    refine AWp.condF rfl rfl ?_
    refine AWp.seq (AWp.rowV (l := _) pok ?_)
    refine sq.c (v := .int .i64 (32)) rfl rfl rfl rfl ?_
    refine sq.c (v := .bool false) rfl rfl rfl rfl ?_
    refine sq.c (v := .bool false) rfl rfl rfl rfl ?_
    refine sq.c (v := .int .i64 (32)) (wantT (g := 2) (d := 80) rfl rfl rfl) rfl rfl rfl ?_
    refine sq.c (v := .bool false) (wantT (g := 2) (d := 80) rfl rfl rfl) rfl rfl rfl ?_
    refine sq.c (v := .bool false) rfl rfl rfl rfl ?_
    refine sq.e ?_
    refine AWp.condF rfl rfl ?_
    refine AWp.skip (AWp.seq (AWp.rowV (l := _) pok ?_))
    refine sq.c (v := .int .u64 (0)) rfl rfl rfl rfl ?_
    refine sq.e (AWp.seq (AWp.seq (AWp.rowV (l := _) pok ?_)))
    refine sq.c (v := .int .i64 (16)) rfl rfl rfl rfl ?_
    refine sq.e (AWp.block (AWp.seq (AWp.rowV (l := _) pok ?_)))
    refine sq.c (v := .bool false) rfl rfl rfl rfl ?_
    refine sq.c (v := .bool false) rfl rfl rfl rfl ?_
    refine sq.e ?_
    refine AWp.condF rfl rfl ?_
    refine AWp.seq (AWp.rowV (l := _) pok ?_)
    refine sq.c (v := .bool true) rfl rfl rfl rfl ?_
    refine sq.c (v := .bool true) rfl rfl rfl rfl ?_
    refine sq.e ?_
    refine AWp.condT rfl rfl ?_
    refine AWp.rowV (l := _) pok ?_
    refine sq.c (v := .int .u64 (1152921504606846976)) rfl rfl rfl rfl ?_
    refine sq.e (AWp.seq (AWp.rowV (l := _) pok ?_))
    refine sq.c (v := .int .i64 (32)) rfl rfl rfl rfl ?_
    refine sq.c (v := .int .u64 (32)) rfl rfl (by kernel_rfl) rfl ?_
    refine sq.c (v := .int .u64 (4294967296)) rfl rfl (by kernel_rfl) rfl ?_
    refine sq.c (v := .int .u64 (4294967295)) rfl rfl rfl rfl ?_
    refine sq.c (v := .int .u64 (4294967295)) rfl rfl rfl rfl ?_
    refine sq.e (AWp.seq (AWp.rowV (l := _) pok ?_))
    refine sq.c (v := .bool false) rfl rfl rfl rfl ?_
    refine sq.e (AWp.seq (AWp.rowV (l := _) pok ?_))
    refine sq.c (v := .int .u64 (0)) rfl rfl rfl rfl ?_
    refine sq.e (AWp.seq (AWp.seq (AWp.rowV (l := _) pok ?_)))
    refine sq.c (v := .string (strB l)) rfl rfl rfl rfl ?_
    have hz0 : h.get n = none := hf0 _ hn
    refine sq.op rfl rfl (Does.bytesOf (P := Tryz.prog) (e := 5) (b := strB l) (h0 := h) hf (by kernel_rfl) (by kernel_rfl) (by kernel_rfl) rfl (by kernel_rfl) (by exact h0) (by unfold U; omega) hz0) ?_
    rintro _ h1 n2 ⟨rfl, R_s⟩ s3 hn2 hf
    refine sq.w ?_
    have hs := hs.trans s3
    have hn := Nat.le_trans hn hn2
    refine sq.c (v := .int .i64 ((((strB l).data.toList.length : Nat) : Int))) rfl rfl (by kernel_rfl) rfl ?_
    refine sq.c (v := .int .i64 (0)) rfl rfl rfl rfl ?_
    refine sq.e (AWp.block ?_)
    refine AWp.loopV (fun d vs h1' n5 => ∃ (i k : Int), d = ((l.length : Nat) - i + 1).toNat ∧ h1 = h1' ∧ n ≤ n5 ∧ Free h1 n5 ∧ (0 ≤ i) ∧ (i ≤ (l.length : Nat)) ∧ (k = ((hexV (l.take i.toNat) : Nat) : Int)) ∧ ∃ y4 : Nat → Value, vs = [.string (strB l), .int .i64 (16), .int .i64 (32), undef, undef, undef, (y4 6), (y4 7), .bool false, .string (strB l), .int .u64 (1152921504606846976), .int .u64 (4294967295), .bool false, .int .u64 (k), undef, (y4 15), (y4 16), (y4 17), .string (strB l), .bool false, undef, .int .i64 (16), .bool false, .string (strB l), undef, .bool true, .int .i64 (16), .bool true, .bool true, .int .i64 (16), .bool true, .bool true, undef, undef, undef, undef, undef, undef, undef, undef, undef, undef, undef, undef, undef, undef, undef, undef, undef, undef, undef, undef, undef, undef, undef, undef, undef, undef, undef, undef, undef, undef, undef, undef, undef, undef, undef, undef, undef, undef, undef, undef, undef, undef, undef, undef, .int .i64 (32), .bool false, .int .i64 (32), .bool false, .bool false, .int .i64 (32), .bool false, .bool false, undef, .int .i64 (16), undef, undef, undef, undef, .bool false, .bool false, .bool true, .bool true, .int .i64 (32), .int .u64 (32), .int .u64 (4294967296), .int .u64 (4294967295), .string (strB l), .slice (some ⟨n, 0, none⟩) (strB l).data.toList.length U, .int .i64 ((((strB l).data.toList.length : Nat) : Int)), .int .i64 (i), (y4 102), (y4 103), (y4 104), (y4 105), (y4 106), (y4 107), (y4 108), (y4 109), (y4 110), (y4 111), (y4 112), (y4 113), (y4 114), (y4 115), (y4 116), (y4 117), (y4 118), (y4 119), (y4 120), (y4 121), (y4 122), (y4 123), (y4 124), (y4 125), (y4 126), (y4 127), (y4 128), (y4 129), (y4 130), (y4 131), (y4 132), (y4 133), (y4 134), (y4 135), (y4 136), (y4 137), (y4 138), (y4 139), (y4 140), (y4 141), (y4 142), (y4 143), (y4 144), (y4 145), (y4 146), (y4 147), (y4 148), (y4 149), (y4 150), (y4 151), (y4 152), (y4 153), (y4 154), (y4 155), (y4 156), (y4 157), (y4 158), (y4 159), (y4 160), (y4 161), (y4 162), (y4 163), undef, undef, undef, undef, undef, undef, undef, undef]) (((l.length : Nat) - (0 : Int) + 1).toNat) ⟨0, 0, rfl, rfl, hn, hf, (by omega), (by omega), (rfl), getV [undef, undef, undef, undef, undef, undef, .int .u64 (0), .nilIface, undef, undef, undef, undef, undef, undef, undef, undef, undef, undef, undef, undef, undef, undef, undef, undef, undef, undef, undef, undef, undef, undef, undef, undef, undef, undef, undef, undef, undef, undef, undef, undef, undef, undef, undef, undef, undef, undef, undef, undef, undef, undef, undef, undef, undef, undef, undef, undef, undef, undef, undef, undef, undef, undef, undef, undef, undef, undef, undef, undef, undef, undef, undef, undef, undef, undef, undef, undef, undef, undef, undef, undef, undef, undef, undef, undef, undef, undef, undef, undef, undef, undef, undef, undef, undef, undef, undef, undef, undef, undef, undef, undef, undef, undef, undef, undef, undef, undef, undef, undef, undef, undef, undef, undef, undef, undef, undef, undef, undef, undef, undef, undef, undef, undef, undef, undef, undef, undef, undef, undef, undef, undef, undef, undef, undef, undef, undef, undef, undef, undef, undef, undef, undef, undef, undef, undef, undef, undef, undef, undef, undef, undef, undef, undef, undef, undef, undef, undef, undef, undef, undef, undef, undef, undef, undef, undef], rfl⟩ ?_
    rintro d vs h1' n5 ⟨i, k, rfl, rfl, hn, hf, hi0, hi1, hk, y4, rfl⟩
    have hvi := hexV_six (l := l.take i.toNat) (by rw [List.length_take]; omega) (all_take ha)
    refine AWp.seq (AWp.rowV (l := _) pok ?_)
    refine sq.c (v := .bool (decide (i < ((((strB l).data.toList.length : Nat) : Int))))) rfl rfl rfl rfl ?_
    refine sq.e (AWp.seq ?_)
    by_cases c36_0 : i < ((((strB l).data.toList.length : Nat) : Int))
    · rw [decide_eq_true c36_0]
      refine AWp.condT rfl rfl ?_
      refine AWp.skip (AWp.seq (AWp.block (AWp.seq (AWp.rowV (l := _) pok ?_))))
      have i12 : (0 : Int) ≤ (i : Int) := by omega
      obtain ⟨x13, hx_x13⟩ : ∃ x, ((strB l).data.toList)[((i : Int)).toNat]? = some x := ⟨_, List.getElem?_eq_getElem (by omega)⟩
      have gx_x13 := hex_rng (List.all_eq_true.1 ha _ (List.mem_of_getElem? hx_x13))
      have gd_x13 := hexD_or x13
      obtain ⟨b6, o7, cs_b6, ow_b6, ci_b6, ie11, hb8, hc9, hr10⟩ := IsRow.at (P := Tryz.prog) (t := 42) (e := 5) (k := .i64) (by kernel_rfl) (by kernel_rfl) R_s.is i12 hx_x13
      refine sq.c (v := .pointer (some ⟨b6, o7, none⟩)) rfl rfl ie11 rfl ?_
      refine sq.c (v := .int .u8 (((x13).toNat : Int))) rfl rfl (ld1 (P := Tryz.prog) (t := 5) (p := o7 + 0) (v := .int .u8 (((x13).toNat : Int))) (by kernel_rfl) (by kernel_rfl) hb8 (hc9 0 _ rfl)) rfl ?_
      refine sq.c (v := .int .u8 (((x13).toNat : Int))) rfl rfl rfl rfl ?_
      refine sq.e (AWp.seq (AWp.rowV (l := _) pok ?_))
      refine sq.c (v := .int .u8 (0)) rfl rfl rfl rfl ?_
      refine sq.e (AWp.seq (AWp.block (AWp.seq (AWp.rowV (l := _) pok ?_))))
      refine sq.c (v := .int .u8 (((x13).toNat : Int))) rfl rfl rfl rfl ?_
      refine sq.c (v := .bool (decide ((((x13).toNat : Int)) = (95 : Int)))) rfl rfl rfl rfl ?_
      refine sq.c (v := .bool (decide ((((x13).toNat : Int)) = (95 : Int)))) rfl rfl rfl rfl ?_
      by_cases c40_1 : (((x13).toNat : Int)) = (95 : Int)
      · exfalso
        omega
      · rw [decide_eq_false c40_1]
        refine sq.s (wantF (g := 2) (d := 109) rfl rfl rfl) rfl ?_
        refine sq.c (v := .bool false) rfl rfl rfl rfl ?_
        refine sq.c (v := .bool false) rfl rfl rfl rfl ?_
        refine sq.e ?_
        refine AWp.condF rfl rfl ?_
        refine AWp.seq (AWp.rowV (l := _) pok ?_)
        refine sq.c (v := .int .u8 (((x13).toNat : Int))) rfl rfl rfl rfl ?_
        refine sq.c (v := .bool (decide ((48 : Int) ≤ (((x13).toNat : Int))))) rfl rfl rfl rfl ?_
        refine sq.c (v := .bool (decide ((48 : Int) ≤ (((x13).toNat : Int))))) rfl rfl rfl rfl ?_
        by_cases c42_1 : (48 : Int) ≤ (((x13).toNat : Int))
        · rw [decide_eq_true c42_1]
          refine sq.c (v := .int .u8 (((x13).toNat : Int))) (wantT (g := 2) (d := 115) rfl rfl rfl) rfl rfl rfl ?_
          refine sq.c (v := .bool (decide ((((x13).toNat : Int)) ≤ (57 : Int)))) (wantT (g := 2) (d := 115) rfl rfl rfl) rfl rfl rfl ?_
          refine sq.c (v := .bool (decide ((((x13).toNat : Int)) ≤ (57 : Int)))) rfl rfl rfl rfl ?_
          refine sq.c (v := .bool (decide ((((x13).toNat : Int)) ≤ (57 : Int)))) rfl rfl rfl rfl ?_
          refine sq.e ?_
          by_cases c42_4 : (((x13).toNat : Int)) ≤ (57 : Int)
          · rw [decide_eq_true c42_4]
            refine AWp.condT rfl rfl ?_
            refine AWp.rowV (l := _) pok ?_
            refine sq.c (v := .int .u8 (((x13).toNat : Int))) rfl rfl rfl rfl ?_
            refine sq.c (v := .int .u8 ((((x13).toNat : Int)) - 48)) rfl rfl (okI (wrap_u8 (by omega) (by omega))) rfl ?_
            refine sq.c (v := .int .u8 ((((x13).toNat : Int)) - 48)) rfl rfl rfl rfl ?_
            refine sq.e (AWp.seq (AWp.seq (AWp.rowV (l := _) pok ?_)))
            refine sq.c (v := .int .u8 ((((x13).toNat : Int)) - 48)) rfl rfl rfl rfl ?_
            refine sq.c (v := .int .i64 (16)) rfl rfl rfl rfl ?_
            refine sq.c (v := .int .u8 (16)) rfl rfl (by kernel_rfl) rfl ?_
            refine sq.c (v := .bool (decide ((16 : Int) ≤ ((((x13).toNat : Int)) - 48)))) rfl rfl rfl rfl ?_
            refine sq.e ?_
            by_cases c46_3 : (16 : Int) ≤ ((((x13).toNat : Int)) - 48)
            · exfalso
              omega
            · rw [decide_eq_false c46_3]
              refine AWp.condF rfl rfl ?_
              refine AWp.skip (AWp.seq (AWp.seq (AWp.rowV (l := _) pok ?_)))
              refine sq.c (v := .int .u64 (k)) rfl rfl rfl rfl ?_
              refine sq.c (v := .int .u64 (1152921504606846976)) rfl rfl rfl rfl ?_
              refine sq.c (v := .bool (decide ((1152921504606846976 : Int) ≤ k))) rfl rfl rfl rfl ?_
              refine sq.e ?_
              by_cases c48_2 : (1152921504606846976 : Int) ≤ k
              · exfalso
                omega
              · rw [decide_eq_false c48_2]
                refine AWp.condF rfl rfl ?_
                refine AWp.skip (AWp.seq (AWp.rowV (l := _) pok ?_))
                refine sq.c (v := .int .u64 (k)) rfl rfl rfl rfl ?_
                refine sq.c (v := .int .i64 (16)) rfl rfl rfl rfl ?_
                refine sq.c (v := .int .u64 (16)) rfl rfl (by kernel_rfl) rfl ?_
                refine sq.c (v := .int .u64 (k * 16)) rfl rfl (okI (wrap_u64 (by omega) (by omega))) rfl ?_
                refine sq.c (v := .int .u64 (k * 16)) rfl rfl rfl rfl ?_
                refine sq.e (AWp.seq (AWp.rowV (l := _) pok ?_))
                refine sq.c (v := .int .u64 (k * 16)) rfl rfl rfl rfl ?_
                refine sq.c (v := .int .u8 ((((x13).toNat : Int)) - 48)) rfl rfl rfl rfl ?_
                refine sq.c (v := .int .u64 ((((x13).toNat : Int)) - 48)) rfl rfl (Eq.trans (b := some (.int .u64 (IntKind.u64.wrap ((((x13).toNat : Int)) - 48)))) (by kernel_rfl) (okI (wrap_u64 (by omega) (by omega)))) rfl ?_
                refine sq.c (v := .int .u64 ((k * 16) + ((((x13).toNat : Int)) - 48))) rfl rfl (okI (wrap_u64 (by omega) (by omega))) rfl ?_
                refine sq.c (v := .int .u64 ((k * 16) + ((((x13).toNat : Int)) - 48))) rfl rfl rfl rfl ?_
                refine sq.e (AWp.seq (AWp.seq (AWp.rowV (l := _) pok ?_)))
                refine sq.c (v := .int .u64 ((k * 16) + ((((x13).toNat : Int)) - 48))) rfl rfl rfl rfl ?_
                refine sq.c (v := .int .u64 (k * 16)) rfl rfl rfl rfl ?_
                refine sq.c (v := .bool (decide (((k * 16) + ((((x13).toNat : Int)) - 48)) < (k * 16)))) rfl rfl rfl rfl ?_
                refine sq.c (v := .bool (decide (((k * 16) + ((((x13).toNat : Int)) - 48)) < (k * 16)))) rfl rfl rfl rfl ?_
                by_cases c52_2 : ((k * 16) + ((((x13).toNat : Int)) - 48)) < (k * 16)
                · exfalso
                  omega
                · rw [decide_eq_false c52_2]
                  refine sq.c (v := .int .u64 ((k * 16) + ((((x13).toNat : Int)) - 48))) (wantT (g := 3) (d := 155) rfl rfl rfl) rfl rfl rfl ?_
                  refine sq.c (v := .int .u64 (4294967295)) (wantT (g := 3) (d := 155) rfl rfl rfl) rfl rfl rfl ?_
                  refine sq.c (v := .bool (decide ((4294967295 : Int) < ((k * 16) + ((((x13).toNat : Int)) - 48))))) (wantT (g := 3) (d := 155) rfl rfl rfl) rfl rfl rfl ?_
                  refine sq.c (v := .bool (decide ((4294967295 : Int) < ((k * 16) + ((((x13).toNat : Int)) - 48))))) rfl rfl rfl rfl ?_
                  refine sq.e ?_
                  by_cases c52_6 : (4294967295 : Int) < ((k * 16) + ((((x13).toNat : Int)) - 48))
                  · exfalso
                    omega
                  · rw [decide_eq_false c52_6]
                    refine AWp.condF rfl rfl ?_
                    refine AWp.skip (AWp.rowV (l := _) pok ?_)
                    refine sq.c (v := .int .u64 ((k * 16) + ((((x13).toNat : Int)) - 48))) rfl rfl rfl rfl ?_
                    refine sq.c (v := .int .u64 ((k * 16) + ((((x13).toNat : Int)) - 48))) rfl rfl rfl rfl ?_
                    refine sq.e (AWp.rowV (l := _) pok ?_)
                    refine sq.c (v := .int .i64 (i + 1)) rfl rfl (okI (wrap_i64 (by omega) (by omega))) rfl ?_
                    refine sq.c (v := .int .i64 (i + 1)) rfl rfl rfl rfl ?_
                    refine sq.e ?_
                    have hst := hexV_step (l := l) hx_x13
                    rw [show i.toNat + 1 = (i + 1).toNat by omega] at hst
                    refine ⟨_, _, rfl, by omega, i + 1, (k * 16) + ((((x13).toNat : Int)) - 48), rfl, rfl, hn, hf, (by omega), (by omega), (by rw [hst]; omega), getV [undef, undef, undef, undef, undef, undef, (y4 6), (y4 7), undef, undef, undef, undef, undef, undef, undef, .int .u8 (((x13).toNat : Int)), .int .u8 ((((x13).toNat : Int)) - 48), .int .u64 ((k * 16) + ((((x13).toNat : Int)) - 48)), undef, undef, undef, undef, undef, undef, undef, undef, undef, undef, undef, undef, undef, undef, undef, undef, undef, undef, undef, undef, undef, undef, undef, undef, undef, undef, undef, undef, undef, undef, undef, undef, undef, undef, undef, undef, undef, undef, undef, undef, undef, undef, undef, undef, undef, undef, undef, undef, undef, undef, undef, undef, undef, undef, undef, undef, undef, undef, undef, undef, undef, undef, undef, undef, undef, undef, undef, undef, undef, undef, undef, undef, undef, undef, undef, undef, undef, undef, undef, undef, undef, undef, undef, undef, .bool true, .pointer (some ⟨b6, o7, none⟩), .int .u8 (((x13).toNat : Int)), (y4 105), .bool false, .int .u8 (((x13).toNat : Int)), .bool false, .bool false, undef, .bool false, .bool true, .int .u8 (((x13).toNat : Int)), .bool true, .bool true, .int .u8 (((x13).toNat : Int)), .bool true, .bool true, .int .u8 (((x13).toNat : Int)), .int .u8 ((((x13).toNat : Int)) - 48), (y4 121), (y4 122), (y4 123), (y4 124), (y4 125), (y4 126), (y4 127), (y4 128), (y4 129), (y4 130), (y4 131), (y4 132), (y4 133), .int .u8 ((((x13).toNat : Int)) - 48), .int .i64 (16), .int .u8 (16), .bool false, (y4 138), .int .u64 (k), .int .u64 (1152921504606846976), .bool false, (y4 142), (y4 143), .int .u64 (k), .int .i64 (16), .int .u64 (16), .int .u64 (k * 16), .int .u64 (k * 16), .int .u8 ((((x13).toNat : Int)) - 48), .int .u64 ((((x13).toNat : Int)) - 48), .int .u64 ((k * 16) + ((((x13).toNat : Int)) - 48)), .int .u64 ((k * 16) + ((((x13).toNat : Int)) - 48)), .int .u64 (k * 16), .bool false, .bool false, .int .u64 ((k * 16) + ((((x13).toNat : Int)) - 48)), .int .u64 (4294967295), .bool false, .bool false, (y4 160), (y4 161), .int .u64 ((k * 16) + ((((x13).toNat : Int)) - 48)), .int .i64 (i + 1)], rfl⟩
          · rw [decide_eq_false c42_4]
            refine AWp.condF rfl rfl ?_
            refine AWp.seq (AWp.rowV (l := _) pok ?_)
            refine sq.c (v := .int .u8 (((x13).toNat : Int))) rfl rfl rfl rfl ?_
            refine sq.t (v := .int .u8 (((x13).toNat : Int))) rfl (CallsF.fn rfl (by kernel_rfl) rfl rfl) (fun hf => f142_spec ((x13).toNat : Int) (by omega) (by omega)) hf rfl ?_
            intro n14 hn2 hf
            have hn := Nat.le_trans hn hn2
            refine sq.c (v := .bool (decide ((97 : Int) ≤ (((x13).toNat : Int))))) rfl rfl rfl rfl ?_
            refine sq.c (v := .bool (decide ((97 : Int) ≤ (((x13).toNat : Int))))) rfl rfl rfl rfl ?_
            by_cases c44_2 : (97 : Int) ≤ (((x13).toNat : Int))
            · rw [decide_eq_true c44_2]
              refine sq.c (v := .int .u8 (((x13).toNat : Int))) (wantT (g := 3) (d := 125) rfl rfl rfl) rfl rfl rfl ?_
              refine sq.t (v := .int .u8 (((x13).toNat : Int))) (wantT (g := 3) (d := 125) rfl rfl rfl) (CallsF.fn rfl (by kernel_rfl) rfl rfl) (fun hf => f142_spec ((x13).toNat : Int) (by omega) (by omega)) hf rfl ?_
              intro n15 hn2 hf
              have hn := Nat.le_trans hn hn2
              refine sq.c (v := .bool (decide ((((x13).toNat : Int)) ≤ (122 : Int)))) (wantT (g := 3) (d := 125) rfl rfl rfl) rfl rfl rfl ?_
              refine sq.c (v := .bool (decide ((((x13).toNat : Int)) ≤ (122 : Int)))) rfl rfl rfl rfl ?_
              refine sq.c (v := .bool (decide ((((x13).toNat : Int)) ≤ (122 : Int)))) rfl rfl rfl rfl ?_
              refine sq.e ?_
              by_cases c44_6 : (((x13).toNat : Int)) ≤ (122 : Int)
              · rw [decide_eq_true c44_6]
                refine AWp.condT rfl rfl ?_
                refine AWp.rowV (l := _) pok ?_
                refine sq.c (v := .int .u8 (((x13).toNat : Int))) rfl rfl rfl rfl ?_
                refine sq.t (v := .int .u8 (((x13).toNat : Int))) rfl (CallsF.fn rfl (by kernel_rfl) rfl rfl) (fun hf => f142_spec ((x13).toNat : Int) (by omega) (by omega)) hf rfl ?_
                intro n16 hn2 hf
                have hn := Nat.le_trans hn hn2
                refine sq.c (v := .int .u8 ((((x13).toNat : Int)) - 97)) rfl rfl (okI (wrap_u8 (by omega) (by omega))) rfl ?_
                refine sq.c (v := .int .u8 (((((x13).toNat : Int)) - 97) + 10)) rfl rfl (okI (wrap_u8 (by omega) (by omega))) rfl ?_
                refine sq.c (v := .int .u8 (((((x13).toNat : Int)) - 97) + 10)) rfl rfl rfl rfl ?_
                refine sq.e (AWp.seq (AWp.seq (AWp.rowV (l := _) pok ?_)))
                refine sq.c (v := .int .u8 (((((x13).toNat : Int)) - 97) + 10)) rfl rfl rfl rfl ?_
                refine sq.c (v := .int .i64 (16)) rfl rfl rfl rfl ?_
                refine sq.c (v := .int .u8 (16)) rfl rfl (by kernel_rfl) rfl ?_
                refine sq.c (v := .bool (decide ((16 : Int) ≤ (((((x13).toNat : Int)) - 97) + 10)))) rfl rfl rfl rfl ?_
                refine sq.e ?_
                by_cases c46_3 : (16 : Int) ≤ (((((x13).toNat : Int)) - 97) + 10)
                · exfalso
                  omega
                · rw [decide_eq_false c46_3]
                  refine AWp.condF rfl rfl ?_
                  refine AWp.skip (AWp.seq (AWp.seq (AWp.rowV (l := _) pok ?_)))
                  refine sq.c (v := .int .u64 (k)) rfl rfl rfl rfl ?_
                  refine sq.c (v := .int .u64 (1152921504606846976)) rfl rfl rfl rfl ?_
                  refine sq.c (v := .bool (decide ((1152921504606846976 : Int) ≤ k))) rfl rfl rfl rfl ?_
                  refine sq.e ?_
                  by_cases c48_2 : (1152921504606846976 : Int) ≤ k
                  · exfalso
                    omega
                  · rw [decide_eq_false c48_2]
                    refine AWp.condF rfl rfl ?_
                    refine AWp.skip (AWp.seq (AWp.rowV (l := _) pok ?_))
                    refine sq.c (v := .int .u64 (k)) rfl rfl rfl rfl ?_
                    refine sq.c (v := .int .i64 (16)) rfl rfl rfl rfl ?_
                    refine sq.c (v := .int .u64 (16)) rfl rfl (by kernel_rfl) rfl ?_
                    refine sq.c (v := .int .u64 (k * 16)) rfl rfl (okI (wrap_u64 (by omega) (by omega))) rfl ?_
                    refine sq.c (v := .int .u64 (k * 16)) rfl rfl rfl rfl ?_
                    refine sq.e (AWp.seq (AWp.rowV (l := _) pok ?_))
                    refine sq.c (v := .int .u64 (k * 16)) rfl rfl rfl rfl ?_
                    refine sq.c (v := .int .u8 (((((x13).toNat : Int)) - 97) + 10)) rfl rfl rfl rfl ?_
                    refine sq.c (v := .int .u64 (((((x13).toNat : Int)) - 97) + 10)) rfl rfl (Eq.trans (b := some (.int .u64 (IntKind.u64.wrap (((((x13).toNat : Int)) - 97) + 10)))) (by kernel_rfl) (okI (wrap_u64 (by omega) (by omega)))) rfl ?_
                    refine sq.c (v := .int .u64 ((k * 16) + (((((x13).toNat : Int)) - 97) + 10))) rfl rfl (okI (wrap_u64 (by omega) (by omega))) rfl ?_
                    refine sq.c (v := .int .u64 ((k * 16) + (((((x13).toNat : Int)) - 97) + 10))) rfl rfl rfl rfl ?_
                    refine sq.e (AWp.seq (AWp.seq (AWp.rowV (l := _) pok ?_)))
                    refine sq.c (v := .int .u64 ((k * 16) + (((((x13).toNat : Int)) - 97) + 10))) rfl rfl rfl rfl ?_
                    refine sq.c (v := .int .u64 (k * 16)) rfl rfl rfl rfl ?_
                    refine sq.c (v := .bool (decide (((k * 16) + (((((x13).toNat : Int)) - 97) + 10)) < (k * 16)))) rfl rfl rfl rfl ?_
                    refine sq.c (v := .bool (decide (((k * 16) + (((((x13).toNat : Int)) - 97) + 10)) < (k * 16)))) rfl rfl rfl rfl ?_
                    by_cases c52_2 : ((k * 16) + (((((x13).toNat : Int)) - 97) + 10)) < (k * 16)
                    · exfalso
                      omega
                    · rw [decide_eq_false c52_2]
                      refine sq.c (v := .int .u64 ((k * 16) + (((((x13).toNat : Int)) - 97) + 10))) (wantT (g := 3) (d := 155) rfl rfl rfl) rfl rfl rfl ?_
                      refine sq.c (v := .int .u64 (4294967295)) (wantT (g := 3) (d := 155) rfl rfl rfl) rfl rfl rfl ?_
                      refine sq.c (v := .bool (decide ((4294967295 : Int) < ((k * 16) + (((((x13).toNat : Int)) - 97) + 10))))) (wantT (g := 3) (d := 155) rfl rfl rfl) rfl rfl rfl ?_
                      refine sq.c (v := .bool (decide ((4294967295 : Int) < ((k * 16) + (((((x13).toNat : Int)) - 97) + 10))))) rfl rfl rfl rfl ?_
                      refine sq.e ?_
                      by_cases c52_6 : (4294967295 : Int) < ((k * 16) + (((((x13).toNat : Int)) - 97) + 10))
                      · exfalso
                        omega
                      · rw [decide_eq_false c52_6]
                        refine AWp.condF rfl rfl ?_
                        refine AWp.skip (AWp.rowV (l := _) pok ?_)
                        refine sq.c (v := .int .u64 ((k * 16) + (((((x13).toNat : Int)) - 97) + 10))) rfl rfl rfl rfl ?_
                        refine sq.c (v := .int .u64 ((k * 16) + (((((x13).toNat : Int)) - 97) + 10))) rfl rfl rfl rfl ?_
                        refine sq.e (AWp.rowV (l := _) pok ?_)
                        refine sq.c (v := .int .i64 (i + 1)) rfl rfl (okI (wrap_i64 (by omega) (by omega))) rfl ?_
                        refine sq.c (v := .int .i64 (i + 1)) rfl rfl rfl rfl ?_
                        refine sq.e ?_
                        have hst := hexV_step (l := l) hx_x13
                        rw [show i.toNat + 1 = (i + 1).toNat by omega] at hst
                        refine ⟨_, _, rfl, by omega, i + 1, (k * 16) + (((((x13).toNat : Int)) - 97) + 10), rfl, rfl, hn, hf, (by omega), (by omega), (by rw [hst]; omega), getV [undef, undef, undef, undef, undef, undef, (y4 6), (y4 7), undef, undef, undef, undef, undef, undef, undef, .int .u8 (((x13).toNat : Int)), .int .u8 (((((x13).toNat : Int)) - 97) + 10), .int .u64 ((k * 16) + (((((x13).toNat : Int)) - 97) + 10)), undef, undef, undef, undef, undef, undef, undef, undef, undef, undef, undef, undef, undef, undef, undef, undef, undef, undef, undef, undef, undef, undef, undef, undef, undef, undef, undef, undef, undef, undef, undef, undef, undef, undef, undef, undef, undef, undef, undef, undef, undef, undef, undef, undef, undef, undef, undef, undef, undef, undef, undef, undef, undef, undef, undef, undef, undef, undef, undef, undef, undef, undef, undef, undef, undef, undef, undef, undef, undef, undef, undef, undef, undef, undef, undef, undef, undef, undef, undef, undef, undef, undef, undef, undef, .bool true, .pointer (some ⟨b6, o7, none⟩), .int .u8 (((x13).toNat : Int)), (y4 105), .bool false, .int .u8 (((x13).toNat : Int)), .bool false, .bool false, undef, .bool false, .bool false, .int .u8 (((x13).toNat : Int)), .bool true, .bool true, .int .u8 (((x13).toNat : Int)), .bool false, .bool false, (y4 119), (y4 120), .bool true, .int .u8 (((x13).toNat : Int)), .int .u8 (((x13).toNat : Int)), .bool true, .bool true, .int .u8 (((x13).toNat : Int)), .int .u8 (((x13).toNat : Int)), .bool true, .bool true, .int .u8 (((x13).toNat : Int)), .int .u8 (((x13).toNat : Int)), .int .u8 ((((x13).toNat : Int)) - 97), .int .u8 (((((x13).toNat : Int)) - 97) + 10), .int .u8 (((((x13).toNat : Int)) - 97) + 10), .int .i64 (16), .int .u8 (16), .bool false, (y4 138), .int .u64 (k), .int .u64 (1152921504606846976), .bool false, (y4 142), (y4 143), .int .u64 (k), .int .i64 (16), .int .u64 (16), .int .u64 (k * 16), .int .u64 (k * 16), .int .u8 (((((x13).toNat : Int)) - 97) + 10), .int .u64 (((((x13).toNat : Int)) - 97) + 10), .int .u64 ((k * 16) + (((((x13).toNat : Int)) - 97) + 10)), .int .u64 ((k * 16) + (((((x13).toNat : Int)) - 97) + 10)), .int .u64 (k * 16), .bool false, .bool false, .int .u64 ((k * 16) + (((((x13).toNat : Int)) - 97) + 10)), .int .u64 (4294967295), .bool false, .bool false, (y4 160), (y4 161), .int .u64 ((k * 16) + (((((x13).toNat : Int)) - 97) + 10)), .int .i64 (i + 1)], rfl⟩
              · exfalso
                omega
            · exfalso
              omega
        · rw [decide_eq_false c42_1]
          refine sq.s (wantF (g := 2) (d := 115) rfl rfl rfl) rfl ?_
          refine sq.s (wantF (g := 2) (d := 115) rfl rfl rfl) rfl ?_
          refine sq.c (v := .bool false) rfl rfl rfl rfl ?_
          refine sq.c (v := .bool false) rfl rfl rfl rfl ?_
          refine sq.e ?_
          refine AWp.condF rfl rfl ?_
          refine AWp.seq (AWp.rowV (l := _) pok ?_)
          refine sq.c (v := .int .u8 (((x13).toNat : Int))) rfl rfl rfl rfl ?_
          refine sq.t (v := .int .u8 (((x13).toNat : Int))) rfl (CallsF.fn rfl (by kernel_rfl) rfl rfl) (fun hf => f142_spec ((x13).toNat : Int) (by omega) (by omega)) hf rfl ?_
          intro n17 hn2 hf
          have hn := Nat.le_trans hn hn2
          refine sq.c (v := .bool (decide ((97 : Int) ≤ (((x13).toNat : Int))))) rfl rfl rfl rfl ?_
          refine sq.c (v := .bool (decide ((97 : Int) ≤ (((x13).toNat : Int))))) rfl rfl rfl rfl ?_
          by_cases c44_2 : (97 : Int) ≤ (((x13).toNat : Int))
          · rw [decide_eq_true c44_2]
            refine sq.c (v := .int .u8 (((x13).toNat : Int))) (wantT (g := 3) (d := 125) rfl rfl rfl) rfl rfl rfl ?_
            refine sq.t (v := .int .u8 (((x13).toNat : Int))) (wantT (g := 3) (d := 125) rfl rfl rfl) (CallsF.fn rfl (by kernel_rfl) rfl rfl) (fun hf => f142_spec ((x13).toNat : Int) (by omega) (by omega)) hf rfl ?_
            intro n18 hn2 hf
            have hn := Nat.le_trans hn hn2
            refine sq.c (v := .bool (decide ((((x13).toNat : Int)) ≤ (122 : Int)))) (wantT (g := 3) (d := 125) rfl rfl rfl) rfl rfl rfl ?_
            refine sq.c (v := .bool (decide ((((x13).toNat : Int)) ≤ (122 : Int)))) rfl rfl rfl rfl ?_
            refine sq.c (v := .bool (decide ((((x13).toNat : Int)) ≤ (122 : Int)))) rfl rfl rfl rfl ?_
            refine sq.e ?_
            by_cases c44_6 : (((x13).toNat : Int)) ≤ (122 : Int)
            · rw [decide_eq_true c44_6]
              refine AWp.condT rfl rfl ?_
              refine AWp.rowV (l := _) pok ?_
              refine sq.c (v := .int .u8 (((x13).toNat : Int))) rfl rfl rfl rfl ?_
              refine sq.t (v := .int .u8 (((x13).toNat : Int))) rfl (CallsF.fn rfl (by kernel_rfl) rfl rfl) (fun hf => f142_spec ((x13).toNat : Int) (by omega) (by omega)) hf rfl ?_
              intro n19 hn2 hf
              have hn := Nat.le_trans hn hn2
              refine sq.c (v := .int .u8 ((((x13).toNat : Int)) - 97)) rfl rfl (okI (wrap_u8 (by omega) (by omega))) rfl ?_
              refine sq.c (v := .int .u8 (((((x13).toNat : Int)) - 97) + 10)) rfl rfl (okI (wrap_u8 (by omega) (by omega))) rfl ?_
              refine sq.c (v := .int .u8 (((((x13).toNat : Int)) - 97) + 10)) rfl rfl rfl rfl ?_
              refine sq.e (AWp.seq (AWp.seq (AWp.rowV (l := _) pok ?_)))
              refine sq.c (v := .int .u8 (((((x13).toNat : Int)) - 97) + 10)) rfl rfl rfl rfl ?_
              refine sq.c (v := .int .i64 (16)) rfl rfl rfl rfl ?_
              refine sq.c (v := .int .u8 (16)) rfl rfl (by kernel_rfl) rfl ?_
              refine sq.c (v := .bool (decide ((16 : Int) ≤ (((((x13).toNat : Int)) - 97) + 10)))) rfl rfl rfl rfl ?_
              refine sq.e ?_
              by_cases c46_3 : (16 : Int) ≤ (((((x13).toNat : Int)) - 97) + 10)
              · exfalso
                omega
              · rw [decide_eq_false c46_3]
                refine AWp.condF rfl rfl ?_
                refine AWp.skip (AWp.seq (AWp.seq (AWp.rowV (l := _) pok ?_)))
                refine sq.c (v := .int .u64 (k)) rfl rfl rfl rfl ?_
                refine sq.c (v := .int .u64 (1152921504606846976)) rfl rfl rfl rfl ?_
                refine sq.c (v := .bool (decide ((1152921504606846976 : Int) ≤ k))) rfl rfl rfl rfl ?_
                refine sq.e ?_
                by_cases c48_2 : (1152921504606846976 : Int) ≤ k
                · exfalso
                  omega
                · rw [decide_eq_false c48_2]
                  refine AWp.condF rfl rfl ?_
                  refine AWp.skip (AWp.seq (AWp.rowV (l := _) pok ?_))
                  refine sq.c (v := .int .u64 (k)) rfl rfl rfl rfl ?_
                  refine sq.c (v := .int .i64 (16)) rfl rfl rfl rfl ?_
                  refine sq.c (v := .int .u64 (16)) rfl rfl (by kernel_rfl) rfl ?_
                  refine sq.c (v := .int .u64 (k * 16)) rfl rfl (okI (wrap_u64 (by omega) (by omega))) rfl ?_
                  refine sq.c (v := .int .u64 (k * 16)) rfl rfl rfl rfl ?_
                  refine sq.e (AWp.seq (AWp.rowV (l := _) pok ?_))
                  refine sq.c (v := .int .u64 (k * 16)) rfl rfl rfl rfl ?_
                  refine sq.c (v := .int .u8 (((((x13).toNat : Int)) - 97) + 10)) rfl rfl rfl rfl ?_
                  refine sq.c (v := .int .u64 (((((x13).toNat : Int)) - 97) + 10)) rfl rfl (Eq.trans (b := some (.int .u64 (IntKind.u64.wrap (((((x13).toNat : Int)) - 97) + 10)))) (by kernel_rfl) (okI (wrap_u64 (by omega) (by omega)))) rfl ?_
                  refine sq.c (v := .int .u64 ((k * 16) + (((((x13).toNat : Int)) - 97) + 10))) rfl rfl (okI (wrap_u64 (by omega) (by omega))) rfl ?_
                  refine sq.c (v := .int .u64 ((k * 16) + (((((x13).toNat : Int)) - 97) + 10))) rfl rfl rfl rfl ?_
                  refine sq.e (AWp.seq (AWp.seq (AWp.rowV (l := _) pok ?_)))
                  refine sq.c (v := .int .u64 ((k * 16) + (((((x13).toNat : Int)) - 97) + 10))) rfl rfl rfl rfl ?_
                  refine sq.c (v := .int .u64 (k * 16)) rfl rfl rfl rfl ?_
                  refine sq.c (v := .bool (decide (((k * 16) + (((((x13).toNat : Int)) - 97) + 10)) < (k * 16)))) rfl rfl rfl rfl ?_
                  refine sq.c (v := .bool (decide (((k * 16) + (((((x13).toNat : Int)) - 97) + 10)) < (k * 16)))) rfl rfl rfl rfl ?_
                  by_cases c52_2 : ((k * 16) + (((((x13).toNat : Int)) - 97) + 10)) < (k * 16)
                  · exfalso
                    omega
                  · rw [decide_eq_false c52_2]
                    refine sq.c (v := .int .u64 ((k * 16) + (((((x13).toNat : Int)) - 97) + 10))) (wantT (g := 3) (d := 155) rfl rfl rfl) rfl rfl rfl ?_
                    refine sq.c (v := .int .u64 (4294967295)) (wantT (g := 3) (d := 155) rfl rfl rfl) rfl rfl rfl ?_
                    refine sq.c (v := .bool (decide ((4294967295 : Int) < ((k * 16) + (((((x13).toNat : Int)) - 97) + 10))))) (wantT (g := 3) (d := 155) rfl rfl rfl) rfl rfl rfl ?_
                    refine sq.c (v := .bool (decide ((4294967295 : Int) < ((k * 16) + (((((x13).toNat : Int)) - 97) + 10))))) rfl rfl rfl rfl ?_
                    refine sq.e ?_
                    by_cases c52_6 : (4294967295 : Int) < ((k * 16) + (((((x13).toNat : Int)) - 97) + 10))
                    · exfalso
                      omega
                    · rw [decide_eq_false c52_6]
                      refine AWp.condF rfl rfl ?_
                      refine AWp.skip (AWp.rowV (l := _) pok ?_)
                      refine sq.c (v := .int .u64 ((k * 16) + (((((x13).toNat : Int)) - 97) + 10))) rfl rfl rfl rfl ?_
                      refine sq.c (v := .int .u64 ((k * 16) + (((((x13).toNat : Int)) - 97) + 10))) rfl rfl rfl rfl ?_
                      refine sq.e (AWp.rowV (l := _) pok ?_)
                      refine sq.c (v := .int .i64 (i + 1)) rfl rfl (okI (wrap_i64 (by omega) (by omega))) rfl ?_
                      refine sq.c (v := .int .i64 (i + 1)) rfl rfl rfl rfl ?_
                      refine sq.e ?_
                      have hst := hexV_step (l := l) hx_x13
                      rw [show i.toNat + 1 = (i + 1).toNat by omega] at hst
                      refine ⟨_, _, rfl, by omega, i + 1, (k * 16) + (((((x13).toNat : Int)) - 97) + 10), rfl, rfl, hn, hf, (by omega), (by omega), (by rw [hst]; omega), getV [undef, undef, undef, undef, undef, undef, (y4 6), (y4 7), undef, undef, undef, undef, undef, undef, undef, .int .u8 (((x13).toNat : Int)), .int .u8 (((((x13).toNat : Int)) - 97) + 10), .int .u64 ((k * 16) + (((((x13).toNat : Int)) - 97) + 10)), undef, undef, undef, undef, undef, undef, undef, undef, undef, undef, undef, undef, undef, undef, undef, undef, undef, undef, undef, undef, undef, undef, undef, undef, undef, undef, undef, undef, undef, undef, undef, undef, undef, undef, undef, undef, undef, undef, undef, undef, undef, undef, undef, undef, undef, undef, undef, undef, undef, undef, undef, undef, undef, undef, undef, undef, undef, undef, undef, undef, undef, undef, undef, undef, undef, undef, undef, undef, undef, undef, undef, undef, undef, undef, undef, undef, undef, undef, undef, undef, undef, undef, undef, undef, .bool true, .pointer (some ⟨b6, o7, none⟩), .int .u8 (((x13).toNat : Int)), (y4 105), .bool false, .int .u8 (((x13).toNat : Int)), .bool false, .bool false, undef, .bool false, .bool false, .int .u8 (((x13).toNat : Int)), .bool false, .bool false, undef, undef, .bool false, (y4 119), (y4 120), .bool true, .int .u8 (((x13).toNat : Int)), .int .u8 (((x13).toNat : Int)), .bool true, .bool true, .int .u8 (((x13).toNat : Int)), .int .u8 (((x13).toNat : Int)), .bool true, .bool true, .int .u8 (((x13).toNat : Int)), .int .u8 (((x13).toNat : Int)), .int .u8 ((((x13).toNat : Int)) - 97), .int .u8 (((((x13).toNat : Int)) - 97) + 10), .int .u8 (((((x13).toNat : Int)) - 97) + 10), .int .i64 (16), .int .u8 (16), .bool false, (y4 138), .int .u64 (k), .int .u64 (1152921504606846976), .bool false, (y4 142), (y4 143), .int .u64 (k), .int .i64 (16), .int .u64 (16), .int .u64 (k * 16), .int .u64 (k * 16), .int .u8 (((((x13).toNat : Int)) - 97) + 10), .int .u64 (((((x13).toNat : Int)) - 97) + 10), .int .u64 ((k * 16) + (((((x13).toNat : Int)) - 97) + 10)), .int .u64 ((k * 16) + (((((x13).toNat : Int)) - 97) + 10)), .int .u64 (k * 16), .bool false, .bool false, .int .u64 ((k * 16) + (((((x13).toNat : Int)) - 97) + 10)), .int .u64 (4294967295), .bool false, .bool false, (y4 160), (y4 161), .int .u64 ((k * 16) + (((((x13).toNat : Int)) - 97) + 10)), .int .i64 (i + 1)], rfl⟩
            · exfalso
              omega
          · exfalso
            omega
    · rw [decide_eq_false c36_0]
      refine AWp.condF rfl rfl ?_
      refine AWp.exit ?_
      refine AWp.seq (AWp.seq (AWp.rowV (l := _) pok ?_))
      refine sq.c (v := .bool false) rfl rfl rfl rfl ?_
      refine sq.c (v := .bool false) rfl rfl rfl rfl ?_
      refine sq.s (wantF (g := 1) (d := 165) rfl rfl rfl) rfl ?_
      refine sq.s (wantF (g := 1) (d := 165) rfl rfl rfl) rfl ?_
      refine sq.s (wantF (g := 1) (d := 165) rfl rfl rfl) rfl ?_
      refine sq.c (v := .bool false) rfl rfl rfl rfl ?_
      refine sq.e ?_
      refine AWp.condF rfl rfl ?_
      refine AWp.skip (AWp.seq (AWp.rowV (l := _) pok ?_))
      refine sq.c (v := .int .u64 (k)) rfl rfl rfl rfl ?_
      refine sq.c (v := .int .u64 (k)) rfl rfl rfl rfl ?_
      refine sq.c (v := .nilIface) rfl rfl rfl rfl ?_
      refine sq.e ?_
      refine AWp.ret ?_
      refine ⟨rfl, [.int .u64 (k), .nilIface], rfl, .tuple #[.int .u64 (k), .nilIface], rfl, hs, hn, ?_⟩
      rw [show i.toNat = l.length by omega, List.take_length] at hk
      rw [hk]
theorem f130_spec {h : Heap} {n : Nat} (l : List UInt8) (h0 : 0 < l.length) (h6 : l.length ≤ 6) (ha : l.all isHexB = true) :
    Tells Tryz.prog 130 [.string (strB l), .int .i64 (16), .int .i64 (32)] h n (.tuple #[.int .i64 ((hexV l : Nat) : Int), .nilIface]) := by
  refine Makes.tells (Makes.free fun hf => ?_)
  have hv := hexV_six h6 ha
  have hl6 : (strB l).data.toList.length = l.length := rfl
  have hne : ¬ strB l = (⟨#[]⟩ : ByteArray) := fun e => by have := congrArg (fun s : ByteArray => s.data.toList.length) e; simp at this; subst this; simp at h0
  have hb := bt_hex ha h0
  have hs : SubBut h h ([]) := .refl _ _
  have hn : n ≤ n := Nat.le_refl _
  have hf0 := hf
  refine Makes.of_bodyV (args := [.string (strB l), .int .i64 (16), .int .i64 (32)]) (vs := [.string (strB l), .int .i64 (16), .int .i64 (32), undef, undef, undef, undef, undef, undef, undef, undef, undef, undef, undef, undef, undef, undef, undef, undef, undef, undef, undef, undef, undef, undef, undef, undef, undef, undef, undef, undef, undef, undef, undef, undef, undef, undef, undef, undef, undef, undef, undef, undef, undef, undef, undef, undef, undef, undef, undef, undef, undef, undef, undef, undef, undef, undef, undef, undef, undef, undef, undef, undef, undef, undef, undef, undef, undef, undef, undef, undef, undef, undef]) Tryz.func130 rfl rfl ?_
  refine AWp.seq (AWp.rowV (l := _) pok ?_)
  refine sq.c (v := .int .i64 (0)) rfl rfl rfl rfl ?_
  refine sq.c (v := .nilIface) rfl rfl rfl rfl ?_
  refine sq.e (AWp.seq (AWp.seq (AWp.rowV (l := _) pok ?_)))
  refine sq.c (v := .string (strB l)) rfl rfl rfl rfl ?_
  refine sq.c (v := .bool (decide (strB l = (⟨#[]⟩ : ByteArray)))) rfl rfl (eqD _ _) rfl ?_
  refine sq.e ?_
  by_cases c1_1 : strB l = (⟨#[]⟩ : ByteArray)
  · exfalso
    exact hne c1_1
  · rw [decide_eq_false c1_1]
    refine AWp.condF rfl rfl ?_
    refine AWp.skip (AWp.seq (AWp.rowV (l := _) pok ?_))
    refine sq.c (v := .bool false) rfl rfl rfl rfl ?_
    refine sq.e (AWp.seq (AWp.seq (AWp.rowV (l := _) pok ?_)))
    refine sq.c (v := .string (strB l)) rfl rfl rfl rfl ?_
    refine sq.c (v := .int .u8 (bt (strB l) (0))) rfl rfl (index_str (P := Tryz.prog) (t := 9) (s := strB l) (i := 0) (k := .i64) (by kernel_rfl) (by omega) (by omega)) rfl ?_
    refine sq.e (AWp.block (AWp.seq (AWp.rowV (l := _) pok ?_)))
    refine sq.c (v := .bool (decide ((bt (strB l) (0)) = (43 : Int)))) rfl rfl rfl rfl ?_
    refine sq.c (v := .bool (decide ((bt (strB l) (0)) = (43 : Int)))) rfl rfl rfl rfl ?_
    refine sq.e ?_
    by_cases c5_0 : (bt (strB l) (0)) = (43 : Int)
    · exfalso
      omega
    · rw [decide_eq_false c5_0]
      refine AWp.condF rfl rfl ?_
      refine AWp.seq (AWp.rowV (l := _) pok ?_)
      refine sq.c (v := .bool (decide ((bt (strB l) (0)) = (45 : Int)))) rfl rfl rfl rfl ?_
      refine sq.c (v := .bool (decide ((bt (strB l) (0)) = (45 : Int)))) rfl rfl rfl rfl ?_
      refine sq.e ?_
      by_cases c7_0 : (bt (strB l) (0)) = (45 : Int)
      · exfalso
        omega
      · rw [decide_eq_false c7_0]
        refine AWp.condF rfl rfl ?_
        refine AWp.skip (AWp.seq (AWp.rowV (l := _) pok ?_))
        refine sq.c (v := .int .u64 (0)) rfl rfl rfl rfl ?_
        refine sq.e (AWp.seq (AWp.rowV (l := _) pok ?_))
        refine sq.c (v := .string (strB l)) rfl rfl rfl rfl ?_
        refine sq.c (v := .int .i64 (16)) rfl rfl rfl rfl ?_
        refine sq.c (v := .int .i64 (32)) rfl rfl rfl rfl ?_
        refine sq.t (v := .tuple #[.int .u64 (((hexV l : Nat) : Int)), .nilIface]) rfl (CallsF.fn rfl (by kernel_rfl) rfl rfl) (fun hf => f135_spec l h0 h6 ha) hf rfl ?_
        intro n1 hn2 hf
        have hn := Nat.le_trans hn hn2
        refine sq.c (v := .tuple #[.int .u64 (((hexV l : Nat) : Int)), .nilIface]) rfl rfl rfl rfl ?_
        refine sq.c (v := .int .u64 (((hexV l : Nat) : Int))) rfl rfl rfl rfl ?_
        refine sq.c (v := .nilIface) rfl rfl rfl rfl ?_
        refine sq.c (v := .int .u64 (((hexV l : Nat) : Int))) rfl rfl rfl rfl ?_
        refine sq.c (v := .nilIface) rfl rfl rfl rfl ?_
        refine sq.e (AWp.seq (AWp.seq (AWp.rowV (l := _) pok ?_)))
        refine sq.c (v := .nilIface) rfl rfl rfl rfl ?_
        refine sq.c (v := .bool false) rfl rfl (by kernel_rfl) rfl ?_
        refine sq.c (v := .bool false) rfl rfl rfl rfl ?_
        refine sq.s (wantF (g := 2) (d := 34) rfl rfl rfl) rfl ?_
        refine sq.s (wantF (g := 2) (d := 34) rfl rfl rfl) rfl ?_
        refine sq.s (wantF (g := 2) (d := 34) rfl rfl rfl) rfl ?_
        refine sq.c (v := .bool false) rfl rfl rfl rfl ?_
        refine sq.e ?_
        refine AWp.condF rfl rfl ?_
        refine AWp.skip (AWp.seq (AWp.seq (AWp.rowV (l := _) pok ?_)))
        refine sq.c (v := .int .i64 (32)) rfl rfl rfl rfl ?_
        refine sq.c (v := .bool false) rfl rfl rfl rfl ?_
        refine sq.e ?_
        refine AWp.condF rfl rfl ?_
        refine AWp.skip (AWp.seq (AWp.rowV (l := _) pok ?_))
        refine sq.c (v := .int .i64 (32)) rfl rfl rfl rfl ?_
        refine sq.c (v := .int .i64 (31)) rfl rfl rfl rfl ?_
        refine sq.c (v := .int .u64 (31)) rfl rfl (by kernel_rfl) rfl ?_
        refine sq.c (v := .int .u64 (2147483648)) rfl rfl (by kernel_rfl) rfl ?_
        refine sq.c (v := .int .u64 (2147483648)) rfl rfl rfl rfl ?_
        refine sq.e (AWp.seq (AWp.seq (AWp.rowV (l := _) pok ?_)))
        refine sq.c (v := .bool false) rfl rfl rfl rfl ?_
        refine sq.c (v := .bool true) rfl rfl rfl rfl ?_
        refine sq.c (v := .bool true) rfl rfl rfl rfl ?_
        refine sq.c (v := .int .u64 (((hexV l : Nat) : Int))) (wantT (g := 2) (d := 48) rfl rfl rfl) rfl rfl rfl ?_
        refine sq.c (v := .int .u64 (2147483648)) (wantT (g := 2) (d := 48) rfl rfl rfl) rfl rfl rfl ?_
        refine sq.c (v := .bool (decide ((2147483648 : Int) ≤ (((hexV l : Nat) : Int))))) (wantT (g := 2) (d := 48) rfl rfl rfl) rfl rfl rfl ?_
        refine sq.c (v := .bool (decide ((2147483648 : Int) ≤ (((hexV l : Nat) : Int))))) rfl rfl rfl rfl ?_
        refine sq.e ?_
        by_cases c17_5 : (2147483648 : Int) ≤ (((hexV l : Nat) : Int))
        · exfalso
          omega
        · rw [decide_eq_false c17_5]
          refine AWp.condF rfl rfl ?_
          refine AWp.skip (AWp.seq (AWp.seq (AWp.rowV (l := _) pok ?_)))
          refine sq.c (v := .bool false) rfl rfl rfl rfl ?_
          refine sq.c (v := .bool false) rfl rfl rfl rfl ?_
          refine sq.s (wantF (g := 1) (d := 58) rfl rfl rfl) rfl ?_
          refine sq.s (wantF (g := 1) (d := 58) rfl rfl rfl) rfl ?_
          refine sq.s (wantF (g := 1) (d := 58) rfl rfl rfl) rfl ?_
          refine sq.c (v := .bool false) rfl rfl rfl rfl ?_
          refine sq.e ?_
          refine AWp.condF rfl rfl ?_
          refine AWp.skip (AWp.seq (AWp.rowV (l := _) pok ?_))
          refine sq.c (v := .int .u64 (((hexV l : Nat) : Int))) rfl rfl rfl rfl ?_
          refine sq.c (v := .int .i64 (((hexV l : Nat) : Int))) rfl rfl (Eq.trans (b := some (.int .i64 (IntKind.i64.wrap (((hexV l : Nat) : Int))))) (by kernel_rfl) (okI (wrap_i64 (by omega) (by omega)))) rfl ?_
          refine sq.c (v := .int .i64 (((hexV l : Nat) : Int))) rfl rfl rfl rfl ?_
          refine sq.e (AWp.seq (AWp.seq (AWp.rowV (l := _) pok ?_)))
          refine sq.c (v := .bool false) rfl rfl rfl rfl ?_
          refine sq.e ?_
          refine AWp.condF rfl rfl ?_
          refine AWp.skip (AWp.seq (AWp.rowV (l := _) pok ?_))
          refine sq.c (v := .int .i64 (((hexV l : Nat) : Int))) rfl rfl rfl rfl ?_
          refine sq.c (v := .int .i64 (((hexV l : Nat) : Int))) rfl rfl rfl rfl ?_
          refine sq.c (v := .nilIface) rfl rfl rfl rfl ?_
          refine sq.e ?_
          refine AWp.ret ?_
          refine ⟨rfl, [.int .i64 (((hexV l : Nat) : Int)), .nilIface], rfl, .tuple #[.int .i64 (((hexV l : Nat) : Int)), .nilIface], rfl, hs, hn, ?_⟩
          rfl
theorem f119_spec {h : Heap} {n : Nat} (l : List UInt8) (h0 : 0 < l.length) (h6 : l.length ≤ 6) (ha : l.all isHexB = true) :
    Tells Tryz.prog 119 [.string (strB l), .int .i64 (16), .int .i64 (32)] h n (.tuple #[.int .i64 ((hexV l : Nat) : Int), .nilIface]) := by
  refine Makes.tells (Makes.free fun hf => ?_)
  have hs : SubBut h h ([]) := .refl _ _
  have hn : n ≤ n := Nat.le_refl _
  have hf0 := hf
  refine Makes.of_bodyV (args := [.string (strB l), .int .i64 (16), .int .i64 (32)]) (vs := [.string (strB l), .int .i64 (16), .int .i64 (32), undef, undef, undef, undef, undef, undef, undef, undef, undef, undef, undef, undef, undef, undef, undef, undef, undef, undef, undef, undef, undef, undef]) Tryz.func119 rfl rfl ?_
  refine AWp.seq (AWp.rowV (l := _) pok ?_)
  refine sq.c (v := .int .i64 (0)) rfl rfl rfl rfl ?_
  refine sq.c (v := .nilIface) rfl rfl rfl rfl ?_
  refine sq.e (AWp.seq (AWp.rowV (l := _) pok ?_))
  refine sq.c (v := .string (strB l)) rfl rfl rfl rfl ?_
  refine sq.c (v := .int .i64 (16)) rfl rfl rfl rfl ?_
  refine sq.c (v := .int .i64 (32)) rfl rfl rfl rfl ?_
  refine sq.t (v := .tuple #[.int .i64 (((hexV l : Nat) : Int)), .nilIface]) rfl (CallsF.fn rfl (by kernel_rfl) rfl rfl) (fun hf => f130_spec l h0 h6 ha) hf rfl ?_
  intro n1 hn2 hf
  have hn := Nat.le_trans hn hn2
  refine sq.c (v := .tuple #[.int .i64 (((hexV l : Nat) : Int)), .nilIface]) rfl rfl rfl rfl ?_
  refine sq.c (v := .int .i64 (((hexV l : Nat) : Int))) rfl rfl rfl rfl ?_
  refine sq.c (v := .nilIface) rfl rfl rfl rfl ?_
  refine sq.c (v := .int .i64 (((hexV l : Nat) : Int))) rfl rfl rfl rfl ?_
  refine sq.c (v := .nilIface) rfl rfl rfl rfl ?_
  refine sq.e (AWp.seq (AWp.seq (AWp.rowV (l := _) pok ?_)))
  refine sq.c (v := .nilIface) rfl rfl rfl rfl ?_
  refine sq.c (v := .bool false) rfl rfl (by kernel_rfl) rfl ?_
  refine sq.e ?_
  refine AWp.condF rfl rfl ?_
  refine AWp.skip (AWp.seq (AWp.rowV (l := _) pok ?_))
  refine sq.c (v := .int .i64 (((hexV l : Nat) : Int))) rfl rfl rfl rfl ?_
  refine sq.c (v := .int .i64 (((hexV l : Nat) : Int))) rfl rfl rfl rfl ?_
  refine sq.c (v := .nilIface) rfl rfl rfl rfl ?_
  refine sq.e ?_
  refine AWp.ret ?_
  refine ⟨rfl, [.int .i64 (((hexV l : Nat) : Int)), .nilIface], rfl, .tuple #[.int .i64 (((hexV l : Nat) : Int)), .nilIface], rfl, hs, hn, ?_⟩
  rfl
def validN (c : Nat) : Bool := Lib.validRune (c : Int)
def numQ (l : List UInt8) : Prop := Lib.hasPrefix l [123] = true ∧ (l.drop 1).contains 125 = true ∧ cutA (l.drop 1) 125 ≠ [] ∧ (cutA (l.drop 1) 125).length ≤ 6 ∧ (cutA (l.drop 1) 125).all isHexB = true ∧ validN (hexV (cutA (l.drop 1) 125)) = true
instance (l : List UInt8) : Decidable (numQ l) := by unfold numQ; infer_instance
def numP (l : List UInt8) : Option (Nat × List UInt8) := if numQ l then some (hexV (cutA (l.drop 1) 125), cutT (l.drop 1) 125) else none
theorem num_no {l : List UInt8} (h : ¬ numQ l) : numP l = none := if_neg h
theorem num_yes {l : List UInt8} (h : numQ l) : numP l = some (hexV (cutA (l.drop 1) 125), cutT (l.drop 1) 125) := if_pos h
theorem strB_nil {l : List UInt8} (h : strB l = (⟨#[]⟩ : ByteArray)) : l = [] := by
  have := congrArg (fun s : ByteArray => s.data.toList) h
  simpa using this
theorem dropWhile_nil {α : Type} {p : α → Bool} : ∀ {l : List α}, l.dropWhile p = [] ↔ l.all p = true
  | [] => by simp
  | a :: l => by
    rw [List.dropWhile_cons, List.all_cons, Bool.and_eq_true]
    cases e : p a with
    | true => simp only [if_pos trivial, true_and]; exact dropWhile_nil
    | false => simp
theorem trim_all (l cs : List UInt8) : Lib.trimS l cs = [] ↔ l.all (cs.contains ·) = true := by
  unfold Lib.trimS Lib.trimLeftS Lib.trimRightS
  rw [dropWhile_nil]
  constructor
  · intro h
    have h2 := List.takeWhile_append_dropWhile (p := (cs.contains ·)) (l := l.reverse)
    have h3 : l = (l.reverse.dropWhile (cs.contains ·)).reverse ++ (l.reverse.takeWhile (cs.contains ·)).reverse := by
      rw [← List.reverse_append, h2, List.reverse_reverse]
    rw [h3, List.all_append, h, Bool.true_and, List.all_reverse]
    rw [List.all_eq_true]
    exact fun x hx => List.all_eq_true.1 (List.all_takeWhile (p := fun x => cs.contains x) (l := l.reverse)) x hx
  · intro h
    rw [List.all_reverse]
    rw [List.all_eq_true] at *
    exact fun x hx => h x (List.mem_reverse.1 ((List.dropWhile_suffix _).subset hx))
theorem trim_hex {l : List UInt8} : strB (Lib.trimS l hexS.data.toList) = (⟨#[]⟩ : ByteArray) ↔ l.all isHexB = true := by
  constructor
  · intro h; exact (trim_all _ _).1 (strB_nil h)
  · intro h; rw [(trim_all _ _).2 h]
def escP (l : List UInt8) : Option (Nat × List UInt8) :=
  if l = [] then none else if bt (strB l) 0 = 117 then numP (l.drop 1) else if bt (strB l) 0 = 34 ∨ bt (strB l) 0 = 92 then some ((bt (strB l) 0).toNat, l.drop 1) else none
theorem f111_spec {h : Heap} {n : Nat} {b : Nat} {ci : CI} (l : List UInt8) (hb : h.get b = some (.cells [.string (strB l)] true ci)) (hl : l.length < 1000000000) :
    Throws Tryz.prog 111 [.pointer (some ⟨b, 0, none⟩)] h n ([b]) (fun v h2 _ => ∃ (c : Nat) (m : List UInt8), numP l = some (c, m) ∧ v = .int .i32 (c : Int) ∧ h2.get b = some (.cells [.string (strB m)] true ci)) (WRONG) (numP l = none) := by
  refine Throws.free fun hf => ?_
  have hdl : (strB (l.drop 1)).data.toList.length = l.length - 1 := List.length_drop
  have hcl : (strB (cutA (l.drop 1) 125)).data.toList.length ≤ l.length - 1 := by rw [← hdl]; exact (List.takeWhile_sublist _).length_le
  have hs : SubBut h h ([b]) := .refl _ _
  have hn : n ≤ n := Nat.le_refl _
  have hf0 := hf
  refine Throws.of_bodyV (args := [.pointer (some ⟨b, 0, none⟩)]) (vs := [.pointer (some ⟨b, 0, none⟩), undef, undef, undef, undef, undef, undef, undef, undef, undef, undef, undef, undef, undef, undef, undef, undef, undef, undef, undef, undef, undef, undef, undef, undef, undef, undef, undef, undef, undef, undef, undef, undef, undef, undef, undef, undef, undef, undef, undef, undef, undef, undef, undef, undef, undef, undef, undef, undef, undef, undef, undef, undef, undef]) Tryz.func111 rfl rfl ?_
  refine AWp.seq (AWp.rowV (l := _) pok ?_)
  refine sq.c (v := .int .i32 (0)) rfl rfl rfl rfl ?_
  refine sq.e (AWp.seq (AWp.rowV (l := _) pok ?_))
  refine sq.c (v := .pointer (some ⟨b, 0, none⟩)) rfl rfl rfl rfl ?_
  refine sq.x rfl (CallsF.fn rfl (by kernel_rfl) rfl rfl) (f66_spec l hb ⟨#[123]⟩) ?_ ?_
  · intro h2 n3 T_ s4 hn2
    have hs := hs.at (by simp) s4
    refine ⟨rfl, .inr ⟨rfl, hs, Nat.le_trans hn hn2, ?_⟩⟩
    exact num_no fun q => absurd (q.1.symm.trans T_) (by decide)
  · rintro _ h2 n3 ⟨rfl, p_1, hb1⟩ s4 hn2 hf
    refine sq.w ?_
    have hs := hs.at (by simp) s4
    have hn := Nat.le_trans hn hn2
    refine sq.e (AWp.seq (AWp.rowV (l := _) pok ?_))
    refine sq.c (v := .pointer (some ⟨b, 0, none⟩)) rfl rfl rfl rfl ?_
    refine sq.c (v := .pointer (some ⟨b, 0, none⟩)) rfl rfl rfl rfl ?_
    refine sq.c (v := .pointer (some ⟨b, 0, none⟩)) rfl rfl (by kernel_rfl) rfl ?_
    refine sq.c (v := .string (strB (l.drop 1))) rfl rfl (ld1 (P := Tryz.prog) (t := 9) (p := 0) (v := .string (strB (l.drop 1))) (by kernel_rfl) (by kernel_rfl) hb1 rfl) rfl ?_
    refine sq.t (v := .tuple #[.string (strB (cutA (l.drop 1) 125)), .string (strB (cutT (l.drop 1) 125)), .bool ((l.drop 1).contains 125)]) rfl (CallsF.fn rfl (by kernel_rfl) rfl rfl) (fun hf => f86_spec (strB (l.drop 1)) 125 (by omega)) hf rfl ?_
    intro n5 hn2 hf
    have hn := Nat.le_trans hn hn2
    refine sq.c (v := .tuple #[.string (strB (cutA (l.drop 1) 125)), .string (strB (cutT (l.drop 1) 125)), .bool ((l.drop 1).contains 125)]) rfl rfl rfl rfl ?_
    refine sq.c (v := .string (strB (cutA (l.drop 1) 125))) rfl rfl rfl rfl ?_
    refine sq.c (v := .string (strB (cutT (l.drop 1) 125))) rfl rfl rfl rfl ?_
    refine sq.c (v := .bool ((l.drop 1).contains 125)) rfl rfl rfl rfl ?_
    refine sq.c (v := .string (strB (cutA (l.drop 1) 125))) rfl rfl rfl rfl ?_
    refine sq.c (v := .string (strB (cutT (l.drop 1) 125))) rfl rfl rfl rfl ?_
    refine sq.c (v := .bool ((l.drop 1).contains 125)) rfl rfl rfl rfl ?_
    refine sq.e (AWp.seq (AWp.rowV (l := _) pok ?_))
    refine sq.c (v := .bool ((l.drop 1).contains 125)) rfl rfl rfl rfl ?_
    refine sq.c (v := .bool ((l.drop 1).contains 125)) rfl rfl rfl rfl ?_
    rcases Bool.eq_false_or_eq_true ((l.drop 1).contains 125) with c_is | c_is
    · rw [c_is]
      refine sq.c (v := .string (strB (cutA (l.drop 1) 125))) (wantT (g := 1) (d := 20) rfl rfl rfl) rfl rfl rfl ?_
      refine sq.c (v := .bool (!decide (strB (cutA (l.drop 1) 125) = (⟨#[]⟩ : ByteArray)))) (wantT (g := 1) (d := 20) rfl rfl rfl) rfl (neD _ _) rfl ?_
      refine sq.c (v := .bool (!decide (strB (cutA (l.drop 1) 125) = (⟨#[]⟩ : ByteArray)))) rfl rfl rfl rfl ?_
      refine sq.c (v := .bool (!decide (strB (cutA (l.drop 1) 125) = (⟨#[]⟩ : ByteArray)))) rfl rfl rfl rfl ?_
      by_cases c3_3 : strB (cutA (l.drop 1) 125) = (⟨#[]⟩ : ByteArray)
      · rw [decide_eq_true c3_3]
        refine sq.s (wantF (g := 5) (d := 24) rfl rfl rfl) rfl ?_
        refine sq.s (wantF (g := 5) (d := 24) rfl rfl rfl) rfl ?_
        refine sq.s (wantF (g := 5) (d := 24) rfl rfl rfl) rfl ?_
        refine sq.c (v := .bool false) rfl rfl rfl rfl ?_
        refine sq.c (v := .bool false) rfl rfl rfl rfl ?_
        refine sq.s (wantF (g := 10) (d := 29) rfl rfl rfl) rfl ?_
        refine sq.s (wantF (g := 10) (d := 29) rfl rfl rfl) rfl ?_
        refine sq.s (wantF (g := 10) (d := 29) rfl rfl rfl) rfl ?_
        refine sq.c (v := .bool false) rfl rfl rfl rfl ?_
        refine sq.x rfl (CallsF.fn rfl (by kernel_rfl) rfl rfl) (f69_spec false) ?_ ?_
        · intro h6 n7 T_ s8 hn2
          have hs := hs.trans (s8.mono (by simp))
          refine ⟨rfl, .inr ⟨rfl, hs, Nat.le_trans hn hn2, ?_⟩⟩
          exact num_no fun q => q.2.2.1 (strB_nil c3_3)
        · rintro _ h6 n7 ⟨rfl, m_1⟩ s8 hn2 hf
          cases m_1
      · rw [decide_eq_false c3_3]
        refine sq.c (v := .string (strB (cutA (l.drop 1) 125))) (wantT (g := 5) (d := 24) rfl rfl rfl) rfl rfl rfl ?_
        refine sq.c (v := .int .i64 ((((strB (cutA (l.drop 1) 125)).data.toList.length : Nat) : Int))) (wantT (g := 5) (d := 24) rfl rfl rfl) rfl (by kernel_rfl) rfl ?_
        refine sq.c (v := .bool (decide (((((strB (cutA (l.drop 1) 125)).data.toList.length : Nat) : Int)) ≤ (6 : Int)))) (wantT (g := 5) (d := 24) rfl rfl rfl) rfl rfl rfl ?_
        refine sq.c (v := .bool (decide (((((strB (cutA (l.drop 1) 125)).data.toList.length : Nat) : Int)) ≤ (6 : Int)))) rfl rfl rfl rfl ?_
        refine sq.c (v := .bool (decide (((((strB (cutA (l.drop 1) 125)).data.toList.length : Nat) : Int)) ≤ (6 : Int)))) rfl rfl rfl rfl ?_
        by_cases c3_8 : ((((strB (cutA (l.drop 1) 125)).data.toList.length : Nat) : Int)) ≤ (6 : Int)
        · rw [decide_eq_true c3_8]
          refine sq.c (v := .string (strB (cutA (l.drop 1) 125))) (wantT (g := 10) (d := 29) rfl rfl rfl) rfl rfl rfl ?_
          refine sq.t (v := .string (strB (Lib.trimS (cutA (l.drop 1) 125) hexS.data.toList))) (wantT (g := 10) (d := 29) rfl rfl rfl) (CallsF.fn rfl (by kernel_rfl) rfl rfl) (fun hf => f118_spec (strB (cutA (l.drop 1) 125)) (by omega)) hf rfl ?_
          intro n9 hn2 hf
          have hn := Nat.le_trans hn hn2
          refine sq.c (v := .bool (decide (strB (Lib.trimS (cutA (l.drop 1) 125) hexS.data.toList) = (⟨#[]⟩ : ByteArray)))) (wantT (g := 10) (d := 29) rfl rfl rfl) rfl (eqD _ _) rfl ?_
          refine sq.c (v := .bool (decide (strB (Lib.trimS (cutA (l.drop 1) 125) hexS.data.toList) = (⟨#[]⟩ : ByteArray)))) rfl rfl rfl rfl ?_
          refine sq.x rfl (CallsF.fn rfl (by kernel_rfl) rfl rfl) (f69_spec (decide (strB (Lib.trimS (cutA (l.drop 1) 125) hexS.data.toList) = (⟨#[]⟩ : ByteArray)))) ?_ ?_
          · intro h10 n11 T_ s12 hn2
            have hs := hs.trans (s12.mono (by simp))
            refine ⟨rfl, .inr ⟨rfl, hs, Nat.le_trans hn hn2, ?_⟩⟩
            exact num_no fun q => of_decide_eq_false T_ (trim_hex.2 q.2.2.2.2.1)
          · rintro _ h10 n11 ⟨rfl, m_1⟩ s12 hn2 hf
            refine sq.w ?_
            have hb1 := s12.sub _ _ hb1
            have hs := hs.trans (s12.mono (by simp))
            have hn := Nat.le_trans hn hn2
            refine sq.e (AWp.seq (AWp.rowV (l := _) pok ?_))
            refine sq.c (v := .string (strB (cutA (l.drop 1) 125))) rfl rfl rfl rfl ?_
            have hx := trim_hex.1 (of_decide_eq_true m_1)
            have h6 : (cutA (l.drop 1) 125).length ≤ 6 := Int.ofNat_le.1 (show (((cutA (l.drop 1) 125).length : Nat) : Int) ≤ ((6 : Nat) : Int) from c3_8)
            have hn0 : (cutA (l.drop 1) 125) ≠ [] := fun e => c3_3 (by rw [e])
            have hv6 := hexV_six h6 hx
            refine sq.t (v := .tuple #[.int .i64 (((hexV (cutA (l.drop 1) 125) : Nat) : Int)), .nilIface]) rfl (CallsF.fn rfl (by kernel_rfl) rfl rfl) (fun hf => f119_spec (cutA (l.drop 1) 125) (List.length_pos_iff.2 hn0) h6 hx) hf rfl ?_
            intro n13 hn2 hf
            have hn := Nat.le_trans hn hn2
            refine sq.c (v := .tuple #[.int .i64 (((hexV (cutA (l.drop 1) 125) : Nat) : Int)), .nilIface]) rfl rfl rfl rfl ?_
            refine sq.c (v := .int .i64 (((hexV (cutA (l.drop 1) 125) : Nat) : Int))) rfl rfl rfl rfl ?_
            refine sq.c (v := .nilIface) rfl rfl rfl rfl ?_
            refine sq.c (v := .int .i64 (((hexV (cutA (l.drop 1) 125) : Nat) : Int))) rfl rfl rfl rfl ?_
            refine sq.c (v := .nilIface) rfl rfl rfl rfl ?_
            refine sq.e (AWp.seq (AWp.rowV (l := _) pok ?_))
            refine sq.c (v := .nilIface) rfl rfl rfl rfl ?_
            refine sq.c (v := .bool true) rfl rfl (by kernel_rfl) rfl ?_
            refine sq.c (v := .bool true) rfl rfl rfl rfl ?_
            refine sq.c (v := .int .i64 (((hexV (cutA (l.drop 1) 125) : Nat) : Int))) (wantT (g := 2) (d := 42) rfl rfl rfl) rfl rfl rfl ?_
            refine sq.c (v := .int .i32 (((hexV (cutA (l.drop 1) 125) : Nat) : Int))) (wantT (g := 2) (d := 42) rfl rfl rfl) rfl (Eq.trans (b := some (.int .i32 (IntKind.i32.wrap (((hexV (cutA (l.drop 1) 125) : Nat) : Int))))) (by kernel_rfl) (okI (wrap_i32 (by omega) (by omega)))) rfl ?_
            refine sq.t (v := .bool (Lib.validRune ((hexV (cutA (l.drop 1) 125) : Nat) : Int))) (wantT (g := 2) (d := 42) rfl rfl rfl) (CallsF.fn rfl (by kernel_rfl) rfl rfl) (fun hf => f120_spec _) hf rfl ?_
            intro n14 hn2 hf
            have hn := Nat.le_trans hn hn2
            refine sq.c (v := .bool (Lib.validRune ((hexV (cutA (l.drop 1) 125) : Nat) : Int))) rfl rfl rfl rfl ?_
            refine sq.x rfl (CallsF.fn rfl (by kernel_rfl) rfl rfl) (f69_spec (Lib.validRune ((hexV (cutA (l.drop 1) 125) : Nat) : Int))) ?_ ?_
            · intro h15 n16 T_ s17 hn2
              have hs := hs.trans (s17.mono (by simp))
              refine ⟨rfl, .inr ⟨rfl, hs, Nat.le_trans hn hn2, ?_⟩⟩
              exact num_no fun q => absurd (q.2.2.2.2.2.symm.trans T_) (by decide)
            · rintro _ h15 n16 ⟨rfl, m_2⟩ s17 hn2 hf
              refine sq.w ?_
              have hb1 := s17.sub _ _ hb1
              have hs := hs.trans (s17.mono (by simp))
              have hn := Nat.le_trans hn hn2
              refine sq.e (AWp.seq (AWp.rowV (l := _) pok ?_))
              refine sq.c (v := .pointer (some ⟨b, 0, none⟩)) rfl rfl rfl rfl ?_
              refine sq.c (v := .string (strB (cutT (l.drop 1) 125))) rfl rfl rfl rfl ?_
              refine sq.c (v := .pointer (some ⟨b, 0, none⟩)) rfl rfl rfl rfl ?_
              refine sq.c (v := .pointer (some ⟨b, 0, none⟩)) rfl rfl (by kernel_rfl) rfl ?_
              refine sq.op rfl rfl (Does.store (k := 1) (xs := [.string (strB (cutT (l.drop 1) 125))]) (cs' := [.string (strB (cutT (l.drop 1) 125))]) hf (by kernel_rfl) rfl rfl rfl hb1 rfl rfl (Nat.le_of_ble_eq_true rfl) rfl) ?_
              rintro _ h19 n20 ⟨rfl, hb18⟩ s21 hn2 hf
              refine sq.w0 ?_
              have hs := hs.at (by simp) s21
              have hn := Nat.le_trans hn hn2
              refine sq.e (AWp.seq (AWp.rowV (l := _) pok ?_))
              refine sq.c (v := .int .i64 (((hexV (cutA (l.drop 1) 125) : Nat) : Int))) rfl rfl rfl rfl ?_
              refine sq.c (v := .int .i32 (((hexV (cutA (l.drop 1) 125) : Nat) : Int))) rfl rfl (Eq.trans (b := some (.int .i32 (IntKind.i32.wrap (((hexV (cutA (l.drop 1) 125) : Nat) : Int))))) (by kernel_rfl) (okI (wrap_i32 (by omega) (by omega)))) rfl ?_
              refine sq.c (v := .int .i32 (((hexV (cutA (l.drop 1) 125) : Nat) : Int))) rfl rfl rfl rfl ?_
              refine sq.e ?_
              refine AWp.ret ?_
              refine ⟨rfl, [.int .i32 (((hexV (cutA (l.drop 1) 125) : Nat) : Int))], rfl, .inl ⟨.int .i32 (((hexV (cutA (l.drop 1) 125) : Nat) : Int)), rfl, hs, hn, ?_⟩⟩
              exact ⟨_, _, num_yes ⟨p_1, c_is, hn0, h6, hx, m_2⟩, rfl, hb18⟩
        · rw [decide_eq_false c3_8]
          refine sq.s (wantF (g := 10) (d := 29) rfl rfl rfl) rfl ?_
          refine sq.s (wantF (g := 10) (d := 29) rfl rfl rfl) rfl ?_
          refine sq.s (wantF (g := 10) (d := 29) rfl rfl rfl) rfl ?_
          refine sq.c (v := .bool false) rfl rfl rfl rfl ?_
          refine sq.x rfl (CallsF.fn rfl (by kernel_rfl) rfl rfl) (f69_spec false) ?_ ?_
          · intro h22 n23 T_ s24 hn2
            have hs := hs.trans (s24.mono (by simp))
            refine ⟨rfl, .inr ⟨rfl, hs, Nat.le_trans hn hn2, ?_⟩⟩
            exact num_no fun q => c3_8 (by have := q.2.2.2.1; show (((cutA (l.drop 1) 125).length : Nat) : Int) ≤ 6; omega)
          · rintro _ h22 n23 ⟨rfl, m_1⟩ s24 hn2 hf
            cases m_1
    · rw [c_is]
      refine sq.s (wantF (g := 1) (d := 20) rfl rfl rfl) rfl ?_
      refine sq.s (wantF (g := 1) (d := 20) rfl rfl rfl) rfl ?_
      refine sq.c (v := .bool false) rfl rfl rfl rfl ?_
      refine sq.c (v := .bool false) rfl rfl rfl rfl ?_
      refine sq.s (wantF (g := 5) (d := 24) rfl rfl rfl) rfl ?_
      refine sq.s (wantF (g := 5) (d := 24) rfl rfl rfl) rfl ?_
      refine sq.s (wantF (g := 5) (d := 24) rfl rfl rfl) rfl ?_
      refine sq.c (v := .bool false) rfl rfl rfl rfl ?_
      refine sq.c (v := .bool false) rfl rfl rfl rfl ?_
      refine sq.s (wantF (g := 10) (d := 29) rfl rfl rfl) rfl ?_
      refine sq.s (wantF (g := 10) (d := 29) rfl rfl rfl) rfl ?_
      refine sq.s (wantF (g := 10) (d := 29) rfl rfl rfl) rfl ?_
      refine sq.c (v := .bool false) rfl rfl rfl rfl ?_
      refine sq.x rfl (CallsF.fn rfl (by kernel_rfl) rfl rfl) (f69_spec false) ?_ ?_
      · intro h25 n26 T_ s27 hn2
        have hs := hs.trans (s27.mono (by simp))
        refine ⟨rfl, .inr ⟨rfl, hs, Nat.le_trans hn hn2, ?_⟩⟩
        exact num_no fun q => by rw [q.2.1] at c_is; cases c_is
      · rintro _ h25 n26 ⟨rfl, m_1⟩ s27 hn2 hf
        cases m_1
theorem f102_spec {h : Heap} {n : Nat} {b : Nat} {ci : CI} (l : List UInt8) (hb : h.get b = some (.cells [.string (strB l)] true ci)) (hl : l.length < 1000000000) :
    Throws Tryz.prog 102 [.pointer (some ⟨b, 0, none⟩)] h n ([b]) (fun v h2 _ => ∃ (c : Nat) (m : List UInt8), escP l = some (c, m) ∧ v = .int .i32 (c : Int) ∧ h2.get b = some (.cells [.string (strB m)] true ci)) (WRONG) (escP l = none) := by
  refine Throws.free fun hf => ?_
  have hll : (strB l).data.toList.length = l.length := rfl
  have hdl : (l.drop 1).length = l.length - 1 := List.length_drop
  have hbt := bt_lt (strB l) 0
  have hs : SubBut h h ([b]) := .refl _ _
  have hn : n ≤ n := Nat.le_refl _
  have hf0 := hf
  refine Throws.of_bodyV (args := [.pointer (some ⟨b, 0, none⟩)]) (vs := [.pointer (some ⟨b, 0, none⟩), undef, undef, undef, undef, undef, undef, undef, undef, undef, undef, undef, undef, undef, undef, undef, undef, undef, undef, undef, undef, undef, undef, undef, undef, undef, undef, undef, undef, undef, undef, undef, undef, undef, undef, undef]) Tryz.func102 rfl rfl ?_
  refine AWp.seq (AWp.rowV (l := _) pok ?_)
  refine sq.c (v := .int .i32 (0)) rfl rfl rfl rfl ?_
  refine sq.e (AWp.seq (AWp.rowV (l := _) pok ?_))
  refine sq.c (v := .pointer (some ⟨b, 0, none⟩)) rfl rfl rfl rfl ?_
  refine sq.c (v := .pointer (some ⟨b, 0, none⟩)) rfl rfl rfl rfl ?_
  refine sq.c (v := .pointer (some ⟨b, 0, none⟩)) rfl rfl (by kernel_rfl) rfl ?_
  refine sq.c (v := .string (strB l)) rfl rfl (ld1 (P := Tryz.prog) (t := 9) (p := 0) (v := .string (strB l)) (by kernel_rfl) (by kernel_rfl) hb rfl) rfl ?_
  refine sq.c (v := .bool (!decide (strB l = (⟨#[]⟩ : ByteArray)))) rfl rfl (neD _ _) rfl ?_
  refine sq.x rfl (CallsF.fn rfl (by kernel_rfl) rfl rfl) (f69_spec (!decide (strB l = (⟨#[]⟩ : ByteArray)))) ?_ ?_
  · intro h1 n2 T_ s3 hn2
    have hs := hs.trans (s3.mono (by simp))
    refine ⟨rfl, .inr ⟨rfl, hs, Nat.le_trans hn hn2, ?_⟩⟩
    have e : strB l = (⟨#[]⟩ : ByteArray) := of_decide_eq_true (by simpa using congrArg not T_)
    unfold escP; rw [if_pos (strB_nil e)]
  · rintro _ h1 n2 ⟨rfl, m_1⟩ s3 hn2 hf
    refine sq.w ?_
    have hb := s3.sub _ _ hb
    have hs := hs.trans (s3.mono (by simp))
    have hn := Nat.le_trans hn hn2
    have hne : l ≠ [] := fun e => by subst e; cases m_1
    have hpos : 0 < (strB l).data.toList.length := List.length_pos_iff.2 hne
    refine sq.e (AWp.seq (AWp.rowV (l := _) pok ?_))
    refine sq.c (v := .pointer (some ⟨b, 0, none⟩)) rfl rfl rfl rfl ?_
    refine sq.c (v := .pointer (some ⟨b, 0, none⟩)) rfl rfl rfl rfl ?_
    refine sq.c (v := .pointer (some ⟨b, 0, none⟩)) rfl rfl (by kernel_rfl) rfl ?_
    refine sq.c (v := .string (strB l)) rfl rfl (ld1 (P := Tryz.prog) (t := 9) (p := 0) (v := .string (strB l)) (by kernel_rfl) (by kernel_rfl) hb rfl) rfl ?_
    refine sq.c (v := .int .u8 (bt (strB l) (0))) rfl rfl (index_str (P := Tryz.prog) (t := 9) (s := strB l) (i := 0) (k := .i64) (by kernel_rfl) (by omega) (by omega)) rfl ?_
    refine sq.c (v := .int .u8 (bt (strB l) (0))) rfl rfl rfl rfl ?_
    refine sq.e (AWp.seq (AWp.rowV (l := _) pok ?_))
    refine sq.c (v := .pointer (some ⟨b, 0, none⟩)) rfl rfl rfl rfl ?_
    refine sq.c (v := .pointer (some ⟨b, 0, none⟩)) rfl rfl rfl rfl ?_
    refine sq.c (v := .pointer (some ⟨b, 0, none⟩)) rfl rfl rfl rfl ?_
    refine sq.c (v := .pointer (some ⟨b, 0, none⟩)) rfl rfl (by kernel_rfl) rfl ?_
    refine sq.c (v := .string (strB l)) rfl rfl (ld1 (P := Tryz.prog) (t := 9) (p := 0) (v := .string (strB l)) (by kernel_rfl) (by kernel_rfl) hb rfl) rfl ?_
    refine sq.c (v := .string (strB (l.drop 1))) rfl rfl (Eq.trans (slice_str (P := Tryz.prog) (h := h1) (t := 9) (s := strB l) (l := 1) (u := ((strB l).data.toList.length : Nat)) (by kernel_rfl) (.inr ⟨_, rfl⟩) (.inl ⟨rfl, rfl⟩) (by omega) (by omega) (by omega)) (okV (congrArg Value.string subD))) rfl ?_
    refine sq.c (v := .pointer (some ⟨b, 0, none⟩)) rfl rfl rfl rfl ?_
    refine sq.c (v := .pointer (some ⟨b, 0, none⟩)) rfl rfl (by kernel_rfl) rfl ?_
    refine sq.op rfl rfl (Does.store (k := 1) (xs := [.string (strB (l.drop 1))]) (cs' := [.string (strB (l.drop 1))]) hf (by kernel_rfl) rfl rfl rfl hb rfl rfl (Nat.le_of_ble_eq_true rfl) rfl) ?_
    rintro _ h5 n6 ⟨rfl, hb4⟩ s7 hn2 hf
    refine sq.w0 ?_
    have hs := hs.at (by simp) s7
    have hn := Nat.le_trans hn hn2
    refine sq.e (AWp.seq (AWp.seq (AWp.rowV (l := _) pok ?_)))
    refine sq.c (v := .int .u8 (bt (strB l) (0))) rfl rfl rfl rfl ?_
    refine sq.c (v := .bool (decide ((bt (strB l) (0)) = (117 : Int)))) rfl rfl rfl rfl ?_
    refine sq.e ?_
    by_cases c4_1 : (bt (strB l) (0)) = (117 : Int)
    · rw [decide_eq_true c4_1]
      refine AWp.condT rfl rfl ?_
      refine AWp.seq (AWp.rowV (l := _) pok ?_)
      refine sq.c (v := .pointer (some ⟨b, 0, none⟩)) rfl rfl rfl rfl ?_
      refine sq.x rfl (CallsF.fn rfl (by kernel_rfl) rfl rfl) (f111_spec (l.drop 1) hb4 (by omega)) ?_ ?_
      · intro h9 n10 T_ s11 hn2
        have hs := hs.at (by simp) s11
        refine ⟨rfl, .inr ⟨rfl, hs, Nat.le_trans hn hn2, ?_⟩⟩
        unfold escP; rw [if_neg hne, if_pos c4_1]; exact T_
      · rintro _ h9 n10 ⟨c_, m_, hnum, rfl, hb8⟩ s11 hn2 hf
        refine sq.w ?_
        have hs := hs.at (by simp) s11
        have hn := Nat.le_trans hn hn2
        refine sq.c (v := .int .i32 ((c_ : Int))) rfl rfl rfl rfl ?_
        refine sq.e ?_
        refine AWp.ret ?_
        refine ⟨rfl, [.int .i32 ((c_ : Int))], rfl, .inl ⟨.int .i32 ((c_ : Int)), rfl, hs, hn, ?_⟩⟩
        exact ⟨_, _, by unfold escP; rw [if_neg hne, if_pos c4_1]; exact hnum, rfl, hb8⟩
    · rw [decide_eq_false c4_1]
      refine AWp.condF rfl rfl ?_
      refine AWp.skip (AWp.seq (AWp.rowV (l := _) pok ?_))
      refine sq.c (v := .int .u8 (bt (strB l) (0))) rfl rfl rfl rfl ?_
      refine sq.c (v := .bool (decide ((bt (strB l) (0)) = (34 : Int)))) rfl rfl rfl rfl ?_
      refine sq.c (v := .bool (decide ((bt (strB l) (0)) = (34 : Int)))) rfl rfl rfl rfl ?_
      by_cases c6_1 : (bt (strB l) (0)) = (34 : Int)
      · rw [decide_eq_true c6_1]
        refine sq.s (wantF (g := 2) (d := 29) rfl rfl rfl) rfl ?_
        refine sq.s (wantF (g := 2) (d := 29) rfl rfl rfl) rfl ?_
        refine sq.c (v := .bool true) rfl rfl rfl rfl ?_
        refine sq.x rfl (CallsF.fn rfl (by kernel_rfl) rfl rfl) (f69_spec true) ?_ ?_
        · intro h12 n13 T_ s14 hn2
          have hs := hs.trans (s14.mono (by simp))
          refine ⟨rfl, .inr ⟨rfl, hs, Nat.le_trans hn hn2, ?_⟩⟩
          cases T_
        · rintro _ h12 n13 ⟨rfl, _⟩ s14 hn2 hf
          refine sq.w ?_
          have hb4 := s14.sub _ _ hb4
          have hs := hs.trans (s14.mono (by simp))
          have hn := Nat.le_trans hn hn2
          refine sq.e (AWp.seq (AWp.rowV (l := _) pok ?_))
          refine sq.c (v := .int .u8 (bt (strB l) (0))) rfl rfl rfl rfl ?_
          refine sq.c (v := .int .i32 (bt (strB l) (0))) rfl rfl (Eq.trans (b := some (.int .i32 (IntKind.i32.wrap (bt (strB l) (0))))) (by kernel_rfl) (okI (wrap_i32 (by omega) (by omega)))) rfl ?_
          refine sq.c (v := .int .i32 (bt (strB l) (0))) rfl rfl rfl rfl ?_
          refine sq.e ?_
          refine AWp.ret ?_
          refine ⟨rfl, [.int .i32 (bt (strB l) (0))], rfl, .inl ⟨.int .i32 (bt (strB l) (0)), rfl, hs, hn, ?_⟩⟩
          exact ⟨(bt (strB l) 0).toNat, _, by unfold escP; rw [if_neg hne, if_neg c4_1, if_pos (.inl c6_1)], congrArg (Value.int .i32) (by omega), hb4⟩
      · rw [decide_eq_false c6_1]
        refine sq.c (v := .int .u8 (bt (strB l) (0))) (wantT (g := 2) (d := 29) rfl rfl rfl) rfl rfl rfl ?_
        refine sq.c (v := .bool (decide ((bt (strB l) (0)) = (92 : Int)))) (wantT (g := 2) (d := 29) rfl rfl rfl) rfl rfl rfl ?_
        refine sq.c (v := .bool (decide ((bt (strB l) (0)) = (92 : Int)))) rfl rfl rfl rfl ?_
        refine sq.x rfl (CallsF.fn rfl (by kernel_rfl) rfl rfl) (f69_spec (decide ((bt (strB l) (0)) = (92 : Int)))) ?_ ?_
        · intro h15 n16 T_ s17 hn2
          have hs := hs.trans (s17.mono (by simp))
          refine ⟨rfl, .inr ⟨rfl, hs, Nat.le_trans hn hn2, ?_⟩⟩
          unfold escP; rw [if_neg hne, if_neg c4_1, if_neg (fun q => q.elim c6_1 (of_decide_eq_false T_))]
        · rintro _ h15 n16 ⟨rfl, m_2⟩ s17 hn2 hf
          refine sq.w ?_
          have hb4 := s17.sub _ _ hb4
          have hs := hs.trans (s17.mono (by simp))
          have hn := Nat.le_trans hn hn2
          refine sq.e (AWp.seq (AWp.rowV (l := _) pok ?_))
          refine sq.c (v := .int .u8 (bt (strB l) (0))) rfl rfl rfl rfl ?_
          refine sq.c (v := .int .i32 (bt (strB l) (0))) rfl rfl (Eq.trans (b := some (.int .i32 (IntKind.i32.wrap (bt (strB l) (0))))) (by kernel_rfl) (okI (wrap_i32 (by omega) (by omega)))) rfl ?_
          refine sq.c (v := .int .i32 (bt (strB l) (0))) rfl rfl rfl rfl ?_
          refine sq.e ?_
          refine AWp.ret ?_
          refine ⟨rfl, [.int .i32 (bt (strB l) (0))], rfl, .inl ⟨.int .i32 (bt (strB l) (0)), rfl, hs, hn, ?_⟩⟩
          exact ⟨(bt (strB l) 0).toNat, _, by unfold escP; rw [if_neg hne, if_neg c4_1, if_pos (.inr (of_decide_eq_true m_2))], congrArg (Value.int .i32) (by omega), hb4⟩
end Go.Proofs.YtkpjfibpaojelaaGreatDoor
namespace Go.Abs
open Go
theorem decodeL_N (l : List UInt8) : Lib.decodeL l = Lib.decodeN l.length (l.getD 0 0).toNat (l.getD 1 0).toNat (l.getD 2 0).toNat (l.getD 3 0).toNat := by
  unfold Lib.decodeL
  rw [Lib.decode_N]
  simp
theorem mayV {l : List UInt8} (h : mayValueL l = true) : (decs l).all okD = true ∧ 1 ≤ (decs l).length ∧ (decs l).length ≤ 64 := by
  unfold mayValueL at h
  simp only [Bool.and_eq_true, decide_eq_true_eq] at h
  exact ⟨h.1.1, h.1.2, h.2⟩
end Go.Abs
