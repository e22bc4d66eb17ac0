/- labels: May of both, Same of both. -/
import Derived.Test.YtkpjfibpaojelaaGreatDoorLabM
namespace Go.Proofs.YtkpjfibpaojelaaGreatDoor
open Go Go.Abs
set_option maxRecDepth 100000
set_option maxHeartbeats 4000000

theorem same_all {ls ms : List Lab} (h : ls.length = ms.length) (hy : ∀ j : Nat, j < ls.length → ls[j]? = ms[j]?) : ls = ms := by
  apply List.ext_getElem?
  intro j
  by_cases hj : j < ls.length
  · exact hy j hj
  · rw [List.getElem?_eq_none (by omega), List.getElem?_eq_none (by omega)]
theorem same_not {ls ms : List Lab} {i : Nat} {x y : Lab} (hx : ls[i]? = some x) (hy : ms[i]? = some y) (h : ¬ x = y) : ¬ ls = ms := by
  intro e
  rw [e, hy] at hx
  exact h (Option.some.inj hx).symm
theorem labNe (x y : Lab) : binE Tryz.prog .neq 40 false false (.agg #[.string x.1, .string x.2]) (.agg #[.string y.1, .string y.2]) = some (.bool (!decide (x = y))) := by
  rw [binE_neq (b := eqS x.1 y.1 && (eqS x.2 y.2 && true)) Tryz.underlying40 (by kernel_rfl) (by kernel_rfl) rfl rfl (by kernel_rfl)]
  have e : (eqS x.1 y.1 && (eqS x.2 y.2 && true)) = decide (x = y) := by
    rw [Bool.eq_iff_iff]
    simp only [Bool.and_true, Bool.and_eq_true, eqS_of, decide_eq_true_eq]
    exact ⟨fun ⟨a, b⟩ => Prod.ext a b, fun e => by rw [e]; exact ⟨rfl, rfl⟩⟩
  rw [e]


/-- baton/labels.May -/
theorem f24_spec {h : Heap} {n : Nat} {a : Option Addr} {cp : Nat} (ls : List Lab) (hl : IsRow encLab h (.slice a ls.length cp) ls) (hlen : ls.length < 9223372036854775808) (hsz : ∀ x ∈ ls, x.1.data.toList.length < 9223372036854775808 ∧ x.2.data.toList.length < 9223372036854775808) (hld : Laid0 h) :
    Tells Tryz.prog 24 [.slice a (ls.length) cp] h n (.bool (mayB ls)) := by
  refine Makes.tells (Makes.free fun hf => ?_)
  have hs : SubBut h h [] := .refl _ _
  have hn : n ≤ n := Nat.le_refl _
  have hf0 := hf
  refine Makes.of_bodyV (args := [.slice a (ls.length) cp]) (vs := [.slice a (ls.length) cp, undef, undef, undef, undef, undef, undef, undef, undef, undef, undef, undef, undef, undef, undef, undef, undef, undef, undef, undef, undef, undef, undef, undef, undef, undef, undef, undef, undef, undef, undef, undef, undef, undef, undef, undef, undef, undef, undef, undef, undef, undef, undef, undef, undef, undef]) Tryz.func24 rfl rfl ?_
  refine AWp.seq ?_
  refine AWp.rowV (l := _) pok ?_
  refine sq.c (v := .bool false) rfl rfl rfl rfl ?_
  refine sq.e ?_
  refine AWp.seq ?_
  refine AWp.seq ?_
  refine AWp.rowV (l := _) pok ?_
  refine sq.c (v := .slice a (ls.length) cp) rfl rfl rfl rfl ?_
  refine sq.c (v := .int .i64 (ls.length)) rfl rfl (by kernel_rfl) rfl ?_
  refine sq.c (v := .int .i64 (0)) rfl rfl rfl rfl ?_
  refine sq.e ?_
  refine AWp.block ?_
  refine AWp.loopV (fun d vs h2 n3 => ∃ (i : Int), d = ((ls.length : Nat) - i + 1).toNat ∧ SubBut h h2 [] ∧ n ≤ n3 ∧ Free h2 n3 ∧ (0 ≤ i) ∧ (i ≤ (ls.length : Nat)) ∧ (∀ j : Nat, (j : Int) < i → okAt ls j = true) ∧ ∃ y1 : Nat → Value, vs = [.slice a (ls.length) cp, undef, (y1 2), (y1 3), (y1 4), .slice a (ls.length) cp, .int .i64 (ls.length), .int .i64 (i), (y1 8), (y1 9), (y1 10), (y1 11), (y1 12), (y1 13), (y1 14), (y1 15), (y1 16), (y1 17), (y1 18), (y1 19), (y1 20), (y1 21), (y1 22), (y1 23), (y1 24), (y1 25), (y1 26), (y1 27), (y1 28), (y1 29), (y1 30), (y1 31), (y1 32), (y1 33), (y1 34), (y1 35), (y1 36), (y1 37), undef, undef, undef, undef, undef, undef, undef, undef]) (((ls.length : Nat) - (0 : Int) + 1).toNat) ⟨0, rfl, hs, hn, hf, (by omega), (by omega), (fun j hj => by omega), getV [undef, undef, .bool false, undef, undef, undef, undef, undef, undef, undef, undef, undef, undef, undef, undef, undef, undef, undef, undef, undef, undef, undef, undef, undef, undef, undef, undef, undef, undef, undef, undef, undef, undef, undef, undef, undef, undef, undef], rfl⟩ ?_
  rintro d vs h2 n3 ⟨i, rfl, hs, hn, hf, hi0, hi1, hyes0, y1, rfl⟩
  refine AWp.seq ?_
  refine AWp.rowV (l := _) pok ?_
  refine sq.c (v := .bool (decide (i < ((ls.length : Nat) : Int)))) rfl rfl rfl rfl ?_
  refine sq.e ?_
  refine AWp.seq ?_
  by_cases c2_0 : i < ((ls.length : Nat) : Int)
  · rw [decide_eq_true c2_0]
    refine AWp.condT rfl rfl ?_
    refine AWp.skip ?_
    refine AWp.seq ?_
    refine AWp.block ?_
    refine AWp.seq ?_
    refine AWp.rowV (l := _) pok ?_
    refine sq.c (v := .int .i64 (i)) rfl rfl rfl rfl ?_
    have i10 : (0 : Int) ≤ (i : Int) := by omega
    obtain ⟨x11, hx_x11⟩ : ∃ x, (ls)[((i : Int)).toNat]? = some x := ⟨_, List.getElem?_eq_getElem (by omega)⟩
    have g_x11 := hsz x11 (List.mem_of_getElem? hx_x11)
    obtain ⟨b4, o5, cs_b4, ow_b4, ci_b4, ie9, hb6, hc7, hr8⟩ := IsRow.at (P := Tryz.prog) (t := 22) (e := 40) (k := .i64) (by kernel_rfl) (by kernel_rfl) (hl.keep hs) i10 hx_x11
    refine sq.c (v := .pointer (some ⟨b4, o5, none⟩)) rfl rfl ie9 rfl ?_
    refine sq.c (v := .agg #[.string (x11.1), .string (x11.2)]) rfl rfl (ldR (P := Tryz.prog) (t := 40) (k := 2) (xs := [.string (x11.1), .string (x11.2)]) (by kernel_rfl) (by kernel_rfl) hr8) rfl ?_
    have e_b4_n3 : b4 ≠ n3 := hf.ne hb6
    have z_n3 : h.get n3 = none := hf0 _ hn
    refine sq.op rfl rfl (Does.alloc (cs := [.string (⟨#[]⟩), .string (⟨#[]⟩)]) hf (z := .agg #[.string (⟨#[]⟩), .string (⟨#[]⟩)]) (by kernel_rfl) rfl) ?_
    rintro _ h13 n14 ⟨rfl, hb12⟩ s15 hn2 hf
    refine sq.w ?_
    have hb6 := s15.sub _ _ hb6
    have hr8 := rowE_sub s15.sub hr8
    have hs := hs.trans s15
    have hn := Nat.le_trans hn hn2
    refine sq.c (v := .int .i64 (i)) rfl rfl rfl rfl ?_
    refine sq.op rfl rfl (Does.store (k := 2) (xs := [.string (x11.1), .string (x11.2)]) (cs' := [.string (x11.1), .string (x11.2)]) hf (by kernel_rfl) rfl rfl rfl hb12 rfl rfl (Nat.le_of_ble_eq_true rfl) rfl) ?_
    rintro _ h17 n18 ⟨rfl, hb16⟩ s19 hn2 hf
    refine sq.w0 ?_
    have hs := hs.fresh z_n3 s19
    have hn := Nat.le_trans hn hn2
    refine sq.e ?_
    refine AWp.seq ?_
    refine AWp.anyV pok [] [0, 1, 2, 3, 4, 5, 6, 7, 8, 9, 10, 11, 12, 13, 14, 15, 16, 17, 18, 19, 20, 21, 22, 23, 24] (by kernel_rfl) (by kernel_rfl) rfl (fun x fr fr' h n hd _ q => ⟨hd ▸ q.1, q.2⟩) ?_
    refine dq.c (v := .pointer (some ⟨n3, 0, none⟩)) rfl (by kernel_rfl) rfl rfl (by kernel_rfl) rfl ?_
    refine dq.g (v := .string (x11.1)) rfl (by kernel_rfl) rfl rfl (ld1 (P := Tryz.prog) (t := 9) (p := 0) (v := .string (x11.1)) (by kernel_rfl) (by kernel_rfl) hb16 rfl) rfl ?_
    refine dq.t (v := .bool (mayNameB (x11.1))) rfl (by kernel_rfl) rfl (CallsF.fn rfl (by kernel_rfl) rfl rfl) (fun hf => f20_spec _ g_x11.1) hf rfl ?_
    intro n20 hn2 hf
    have hn := Nat.le_trans hn hn2
    rcases Bool.eq_false_or_eq_true (mayNameB (x11.1)) with c4_2 | c4_2
    · rw [c4_2]
      refine dq.c (v := .bool false) rfl (by kernel_rfl) rfl rfl rfl rfl ?_
      refine dq.c (v := .bool false) rfl (by kernel_rfl) rfl rfl rfl rfl ?_
      refine dq.c (v := .pointer (some ⟨n3, 1, none⟩)) rfl (by kernel_rfl) (wantT (g := 4) (d := 16) rfl rfl rfl) rfl (by kernel_rfl) rfl ?_
      refine dq.g (v := .string (x11.2)) rfl (by kernel_rfl) (wantT (g := 4) (d := 16) rfl rfl rfl) rfl (ld1 (P := Tryz.prog) (t := 9) (p := 1) (v := .string (x11.2)) (by kernel_rfl) (by kernel_rfl) hb16 rfl) rfl ?_
      refine dq.t (v := .bool (mayValueB (x11.2))) rfl (by kernel_rfl) (wantT (g := 4) (d := 16) rfl rfl rfl) (CallsF.fn rfl (by kernel_rfl) rfl rfl) (fun hf => f22_spec _ (hld.keep hs) g_x11.2) hf rfl ?_
      intro n21 hn2 hf
      have hn := Nat.le_trans hn hn2
      rcases Bool.eq_false_or_eq_true (mayValueB (x11.2)) with c4_7 | c4_7
      · rw [c4_7]
        refine dq.c (v := .bool false) rfl (by kernel_rfl) (wantT (g := 4) (d := 16) rfl rfl rfl) rfl rfl rfl ?_
        refine dq.c (v := .bool false) rfl (by kernel_rfl) rfl rfl rfl rfl ?_
        refine dq.c (v := .bool false) rfl (by kernel_rfl) rfl rfl rfl rfl ?_
        refine dq.c (v := .int .i64 (i)) rfl (by kernel_rfl) (wantT (g := 10) (d := 22) rfl rfl rfl) rfl rfl rfl ?_
        refine dq.c (v := .bool (decide ((0 : Int) < i))) rfl (by kernel_rfl) (wantT (g := 10) (d := 22) rfl rfl rfl) rfl rfl rfl ?_
        refine dq.c (v := .bool (decide ((0 : Int) < i))) rfl (by kernel_rfl) (wantT (g := 10) (d := 22) rfl rfl rfl) rfl rfl rfl ?_
        by_cases c4_12 : (0 : Int) < i
        · rw [decide_eq_true c4_12]
          refine dq.c (v := .pointer (some ⟨n3, 0, none⟩)) rfl (by kernel_rfl) (wantT (g := 13) (d := 25) rfl rfl rfl) rfl (by kernel_rfl) rfl ?_
          refine dq.g (v := .string (x11.1)) rfl (by kernel_rfl) (wantT (g := 13) (d := 25) rfl rfl rfl) rfl (ld1 (P := Tryz.prog) (t := 9) (p := 0) (v := .string (x11.1)) (by kernel_rfl) (by kernel_rfl) hb16 rfl) rfl ?_
          refine dq.c (v := .slice a (ls.length) cp) rfl (by kernel_rfl) (wantT (g := 13) (d := 25) rfl rfl rfl) rfl rfl rfl ?_
          refine dq.c (v := .int .i64 (i)) rfl (by kernel_rfl) (wantT (g := 13) (d := 25) rfl rfl rfl) rfl rfl rfl ?_
          refine dq.c (v := .int .i64 (i - 1)) rfl (by kernel_rfl) (wantT (g := 13) (d := 25) rfl rfl rfl) rfl (okI (wrap_i64 (by omega) (by omega))) rfl ?_
          have i28 : (0 : Int) ≤ (i - 1 : Int) := by omega
          obtain ⟨x29, hx_x29⟩ : ∃ x, (ls)[((i - 1 : Int)).toNat]? = some x := ⟨_, List.getElem?_eq_getElem (by omega)⟩
          have g_x29 := hsz x29 (List.mem_of_getElem? hx_x29)
          obtain ⟨b22, o23, cs_b22, ow_b22, ci_b22, ie27, hb24, hc25, hr26⟩ := IsRow.at (P := Tryz.prog) (t := 22) (e := 40) (k := .i64) (by kernel_rfl) (by kernel_rfl) (hl.keep hs) i28 hx_x29
          refine dq.c (v := .pointer (some ⟨b22, o23, none⟩)) rfl (by kernel_rfl) (wantT (g := 13) (d := 25) rfl rfl rfl) rfl ie27 rfl ?_
          refine dq.c (v := .pointer (some ⟨b22, o23, none⟩)) rfl (by kernel_rfl) (wantT (g := 13) (d := 25) rfl rfl rfl) rfl (by kernel_rfl) rfl ?_
          refine dq.g (v := .string (x29.1)) rfl (by kernel_rfl) (wantT (g := 13) (d := 25) rfl rfl rfl) rfl (ld1 (P := Tryz.prog) (t := 9) (p := o23 + 0) (v := .string (x29.1)) (by kernel_rfl) (by kernel_rfl) hb24 (hc25 0 _ rfl)) rfl ?_
          refine dq.c (v := .bool ((lessS x11.1 x29.1 || eqS x11.1 x29.1))) rfl (by kernel_rfl) (wantT (g := 13) (d := 25) rfl rfl rfl) rfl rfl rfl ?_
          refine dq.c (v := .bool ((lessS x11.1 x29.1 || eqS x11.1 x29.1))) rfl (by kernel_rfl) (wantT (g := 10) (d := 22) rfl rfl rfl) rfl rfl rfl ?_
          refine dq.c (v := .bool ((lessS x11.1 x29.1 || eqS x11.1 x29.1))) rfl (by kernel_rfl) rfl rfl rfl rfl ?_
          refine dq.e ?_
          rcases Bool.eq_false_or_eq_true ((lessS x11.1 x29.1 || eqS x11.1 x29.1)) with c4_22 | c4_22
          · rw [c4_22]
            refine AWp.condT rfl rfl ?_
            refine AWp.seq ?_
            refine AWp.rowV (l := _) pok ?_
            refine sq.c (v := .bool false) rfl rfl rfl rfl ?_
            refine sq.e ?_
            refine AWp.ret ?_
            -- end 1: L2 c2_0 c4_2 c4_7 c4_12 c4_22
            refine ⟨rfl, [.bool false], rfl, .bool false, rfl, hs, hn, ?_⟩
            show Value.bool false = .bool (mayB ls)
            rw [may_row hx_x11 (by omega) (by rw [show i.toNat - 1 = (i - 1).toNat by omega]; exact hx_x29) c4_22]
          · rw [c4_22]
            refine AWp.condF rfl rfl ?_
            refine AWp.skip ?_
            refine AWp.rowV (l := _) pok ?_
            refine sq.c (v := .int .i64 (i + 1)) rfl rfl (okI (wrap_i64 (by omega) (by omega))) rfl ?_
            refine sq.c (v := .int .i64 (i + 1)) rfl rfl rfl rfl ?_
            refine sq.e ?_
            have ok1 : okAt ls i.toNat = true := okAt_yes hx_x11 c4_2 c4_7 (.inr ⟨_, by rw [show i.toNat - 1 = (i - 1).toNat by omega]; exact hx_x29, c4_22⟩)
            have hy : ∀ j : Nat, (j : Int) < i + 1 → okAt ls j = true := by
              intro j hj
              by_cases e : j = i.toNat
              · rw [e]; exact ok1
              · exact hyes0 j (by omega)
            refine ⟨_, _, rfl, by omega, i + 1, rfl, hs, hn, hf, (by omega), (by omega), (hy), getV [undef, undef, (y1 2), .int .i64 (i), .pointer (some ⟨n3, 0, none⟩), undef, undef, undef, .bool true, .int .i64 (i), .pointer (some ⟨b4, o5, none⟩), .agg #[.string (x11.1), .string (x11.2)], .pointer (some ⟨n3, 0, none⟩), .string (x11.1), .bool true, .bool false, .bool false, .pointer (some ⟨n3, 1, none⟩), .string (x11.2), .bool true, .bool false, .bool false, .bool false, .int .i64 (i), .bool true, .bool true, .pointer (some ⟨n3, 0, none⟩), .string (x11.1), .slice a (ls.length) cp, .int .i64 (i), .int .i64 (i - 1), .pointer (some ⟨b22, o23, none⟩), .pointer (some ⟨b22, o23, none⟩), .string (x29.1), .bool false, .bool false, .bool false, .int .i64 (i + 1)], rfl⟩
        · rw [decide_eq_false c4_12]
          refine dq.s rfl (wantF (g := 13) (d := 25) rfl rfl rfl) rfl ?_
          refine dq.s rfl (wantF (g := 13) (d := 25) rfl rfl rfl) rfl ?_
          refine dq.s rfl (wantF (g := 13) (d := 25) rfl rfl rfl) rfl ?_
          refine dq.s rfl (wantF (g := 13) (d := 25) rfl rfl rfl) rfl ?_
          refine dq.s rfl (wantF (g := 13) (d := 25) rfl rfl rfl) rfl ?_
          refine dq.s rfl (wantF (g := 13) (d := 25) rfl rfl rfl) rfl ?_
          refine dq.s rfl (wantF (g := 13) (d := 25) rfl rfl rfl) rfl ?_
          refine dq.s rfl (wantF (g := 13) (d := 25) rfl rfl rfl) rfl ?_
          refine dq.s rfl (wantF (g := 13) (d := 25) rfl rfl rfl) rfl ?_
          refine dq.c (v := .bool false) rfl (by kernel_rfl) (wantT (g := 10) (d := 22) rfl rfl rfl) rfl rfl rfl ?_
          refine dq.c (v := .bool false) rfl (by kernel_rfl) rfl rfl rfl rfl ?_
          refine dq.e ?_
          refine AWp.condF rfl rfl ?_
          refine AWp.skip ?_
          refine AWp.rowV (l := _) pok ?_
          refine sq.c (v := .int .i64 (i + 1)) rfl rfl (okI (wrap_i64 (by omega) (by omega))) rfl ?_
          refine sq.c (v := .int .i64 (i + 1)) rfl rfl rfl rfl ?_
          refine sq.e ?_
          have ok1 : okAt ls i.toNat = true := okAt_yes hx_x11 c4_2 c4_7 (.inl (by omega))
          have hy : ∀ j : Nat, (j : Int) < i + 1 → okAt ls j = true := by
            intro j hj
            by_cases e : j = i.toNat
            · rw [e]; exact ok1
            · exact hyes0 j (by omega)
          refine ⟨_, _, rfl, by omega, i + 1, rfl, hs, hn, hf, (by omega), (by omega), (hy), getV [undef, undef, (y1 2), .int .i64 (i), .pointer (some ⟨n3, 0, none⟩), undef, undef, undef, .bool true, .int .i64 (i), .pointer (some ⟨b4, o5, none⟩), .agg #[.string (x11.1), .string (x11.2)], .pointer (some ⟨n3, 0, none⟩), .string (x11.1), .bool true, .bool false, .bool false, .pointer (some ⟨n3, 1, none⟩), .string (x11.2), .bool true, .bool false, .bool false, .bool false, .int .i64 (i), .bool false, .bool false, undef, undef, undef, undef, undef, undef, undef, undef, undef, .bool false, .bool false, .int .i64 (i + 1)], rfl⟩
      · rw [c4_7]
        refine dq.c (v := .bool true) rfl (by kernel_rfl) rfl rfl rfl rfl ?_
        refine dq.c (v := .bool true) rfl (by kernel_rfl) rfl rfl rfl rfl ?_
        refine dq.c (v := .bool true) rfl (by kernel_rfl) rfl rfl rfl rfl ?_
        refine dq.s rfl (wantF (g := 10) (d := 22) rfl rfl rfl) rfl ?_
        refine dq.s rfl (wantF (g := 10) (d := 22) rfl rfl rfl) rfl ?_
        refine dq.s rfl (wantF (g := 10) (d := 22) rfl rfl rfl) rfl ?_
        refine dq.s rfl (wantU (g := 13) (d := 25) rfl rfl rfl) rfl ?_
        refine dq.s rfl (wantU (g := 13) (d := 25) rfl rfl rfl) rfl ?_
        refine dq.s rfl (wantU (g := 13) (d := 25) rfl rfl rfl) rfl ?_
        refine dq.s rfl (wantU (g := 13) (d := 25) rfl rfl rfl) rfl ?_
        refine dq.s rfl (wantU (g := 13) (d := 25) rfl rfl rfl) rfl ?_
        refine dq.s rfl (wantU (g := 13) (d := 25) rfl rfl rfl) rfl ?_
        refine dq.s rfl (wantU (g := 13) (d := 25) rfl rfl rfl) rfl ?_
        refine dq.s rfl (wantU (g := 13) (d := 25) rfl rfl rfl) rfl ?_
        refine dq.s rfl (wantU (g := 13) (d := 25) rfl rfl rfl) rfl ?_
        refine dq.s rfl (wantF (g := 10) (d := 22) rfl rfl rfl) rfl ?_
        refine dq.c (v := .bool true) rfl (by kernel_rfl) rfl rfl rfl rfl ?_
        refine dq.e ?_
        refine AWp.condT rfl rfl ?_
        refine AWp.seq ?_
        refine AWp.rowV (l := _) pok ?_
        refine sq.c (v := .bool false) rfl rfl rfl rfl ?_
        refine sq.e ?_
        refine AWp.ret ?_
        -- end 2: L2 c2_0 c4_2 ¬c4_7
        refine ⟨rfl, [.bool false], rfl, .bool false, rfl, hs, hn, ?_⟩
        show Value.bool false = .bool (mayB ls)
        rw [may_bad hx_x11 (.inr c4_7)]
    · rw [c4_2]
      refine dq.c (v := .bool true) rfl (by kernel_rfl) rfl rfl rfl rfl ?_
      refine dq.c (v := .bool true) rfl (by kernel_rfl) rfl rfl rfl rfl ?_
      refine dq.s rfl (wantF (g := 4) (d := 16) rfl rfl rfl) rfl ?_
      refine dq.s rfl (wantF (g := 4) (d := 16) rfl rfl rfl) rfl ?_
      refine dq.s rfl (wantF (g := 4) (d := 16) rfl rfl rfl) rfl ?_
      refine dq.s rfl (wantF (g := 4) (d := 16) rfl rfl rfl) rfl ?_
      refine dq.c (v := .bool true) rfl (by kernel_rfl) rfl rfl rfl rfl ?_
      refine dq.c (v := .bool true) rfl (by kernel_rfl) rfl rfl rfl rfl ?_
      refine dq.s rfl (wantF (g := 10) (d := 22) rfl rfl rfl) rfl ?_
      refine dq.s rfl (wantF (g := 10) (d := 22) rfl rfl rfl) rfl ?_
      refine dq.s rfl (wantF (g := 10) (d := 22) rfl rfl rfl) rfl ?_
      refine dq.s rfl (wantU (g := 13) (d := 25) rfl rfl rfl) rfl ?_
      refine dq.s rfl (wantU (g := 13) (d := 25) rfl rfl rfl) rfl ?_
      refine dq.s rfl (wantU (g := 13) (d := 25) rfl rfl rfl) rfl ?_
      refine dq.s rfl (wantU (g := 13) (d := 25) rfl rfl rfl) rfl ?_
      refine dq.s rfl (wantU (g := 13) (d := 25) rfl rfl rfl) rfl ?_
      refine dq.s rfl (wantU (g := 13) (d := 25) rfl rfl rfl) rfl ?_
      refine dq.s rfl (wantU (g := 13) (d := 25) rfl rfl rfl) rfl ?_
      refine dq.s rfl (wantU (g := 13) (d := 25) rfl rfl rfl) rfl ?_
      refine dq.s rfl (wantU (g := 13) (d := 25) rfl rfl rfl) rfl ?_
      refine dq.s rfl (wantF (g := 10) (d := 22) rfl rfl rfl) rfl ?_
      refine dq.c (v := .bool true) rfl (by kernel_rfl) rfl rfl rfl rfl ?_
      refine dq.e ?_
      refine AWp.condT rfl rfl ?_
      refine AWp.seq ?_
      refine AWp.rowV (l := _) pok ?_
      refine sq.c (v := .bool false) rfl rfl rfl rfl ?_
      refine sq.e ?_
      refine AWp.ret ?_
      -- end 3: L2 c2_0 ¬c4_2
      refine ⟨rfl, [.bool false], rfl, .bool false, rfl, hs, hn, ?_⟩
      show Value.bool false = .bool (mayB ls)
      rw [may_bad hx_x11 (.inl c4_2)]
  · rw [decide_eq_false c2_0]
    refine AWp.condF rfl rfl ?_
    refine AWp.exit ?_
    refine AWp.seq ?_
    refine AWp.rowV (l := _) pok ?_
    refine sq.c (v := .slice a (ls.length) cp) rfl rfl rfl rfl ?_
    refine sq.c (v := .int .i64 (ls.length)) rfl rfl (by kernel_rfl) rfl ?_
    refine sq.c (v := .bool (decide ((0 : Int) < ((ls.length : Nat) : Int)))) rfl rfl rfl rfl ?_
    refine sq.c (v := .bool (decide ((0 : Int) < ((ls.length : Nat) : Int)))) rfl rfl rfl rfl ?_
    by_cases c7_2 : (0 : Int) < ((ls.length : Nat) : Int)
    · rw [decide_eq_true c7_2]
      refine sq.c (v := .slice a (ls.length) cp) (wantT (g := 3) (d := 41) rfl rfl rfl) rfl rfl rfl ?_
      refine sq.c (v := .int .i64 (ls.length)) (wantT (g := 3) (d := 41) rfl rfl rfl) rfl (by kernel_rfl) rfl ?_
      refine sq.c (v := .bool (decide (((ls.length : Nat) : Int) ≤ (16 : Int)))) (wantT (g := 3) (d := 41) rfl rfl rfl) rfl rfl rfl ?_
      refine sq.c (v := .bool (decide (((ls.length : Nat) : Int) ≤ (16 : Int)))) rfl rfl rfl rfl ?_
      refine sq.c (v := .bool (decide (((ls.length : Nat) : Int) ≤ (16 : Int)))) rfl rfl rfl rfl ?_
      refine sq.e ?_
      refine AWp.ret ?_
      -- end 4: L2 ¬c2_0 c7_2
      refine ⟨rfl, [.bool (decide (((ls.length : Nat) : Int) ≤ (16 : Int)))], rfl, .bool (decide (((ls.length : Nat) : Int) ≤ (16 : Int))), rfl, hs, hn, ?_⟩
      have hyes : ∀ j : Nat, j < ls.length → okAt ls j = true := fun j hj => hyes0 j (by omega)
      show Value.bool (decide (((ls.length : Nat) : Int) ≤ (16 : Int))) = .bool (mayB ls)
      rw [may_all hyes]; exact congrArg Value.bool (decide_eq_decide.2 (by omega))
    · rw [decide_eq_false c7_2]
      refine sq.s (wantF (g := 3) (d := 41) rfl rfl rfl) rfl ?_
      refine sq.s (wantF (g := 3) (d := 41) rfl rfl rfl) rfl ?_
      refine sq.s (wantF (g := 3) (d := 41) rfl rfl rfl) rfl ?_
      refine sq.c (v := .bool false) rfl rfl rfl rfl ?_
      refine sq.c (v := .bool false) rfl rfl rfl rfl ?_
      refine sq.e ?_
      refine AWp.ret ?_
      -- end 5: L2 ¬c2_0 ¬c7_2
      refine ⟨rfl, [.bool false], rfl, .bool false, rfl, hs, hn, ?_⟩
      have hyes : ∀ j : Nat, j < ls.length → okAt ls j = true := fun j hj => hyes0 j (by omega)
      show Value.bool false = .bool (mayB ls)
      rw [may_len (by omega)]

/-- baton/batonref05.May -/
theorem f25_spec {h : Heap} {n : Nat} {a : Option Addr} {cp : Nat} (ls : List Lab) (hl : IsRow encLab h (.slice a ls.length cp) ls) (hlen : ls.length < 9223372036854775808) (hsz : ∀ x ∈ ls, x.1.data.toList.length < 9223372036854775808 ∧ x.2.data.toList.length < 9223372036854775808) :
    Tells Tryz.prog 25 [.slice a (ls.length) cp] h n (.bool (mayB ls)) := by
  refine Makes.tells (Makes.free fun hf => ?_)
  have hs : SubBut h h [] := .refl _ _
  have hn : n ≤ n := Nat.le_refl _
  have hf0 := hf
  refine Makes.of_bodyV (args := [.slice a (ls.length) cp]) (vs := [.slice a (ls.length) cp, undef, undef, undef, undef, undef, undef, undef, undef, undef, undef, undef, undef, undef, undef, undef, undef, undef, undef, undef, undef, undef, undef, undef, undef, undef, undef, undef, undef, undef, undef, undef, undef, undef, undef, undef, undef, undef, undef, undef, undef, undef, undef, undef, undef, undef, undef, undef, undef, undef, undef, undef]) Tryz.func25 rfl rfl ?_
  refine AWp.seq ?_
  refine AWp.rowV (l := _) pok ?_
  refine sq.c (v := .bool false) rfl rfl rfl rfl ?_
  refine sq.e ?_
  refine AWp.seqJ (fun vs h' n2 => h = h' ∧ n ≤ n2 ∧ Free h n2 ∧ (1 ≤ ls.length ∧ ls.length ≤ 16) ∧ ∃ y1 : Nat → Value, vs = [.slice a (ls.length) cp, undef, (y1 2), undef, (y1 4), (y1 5), (y1 6), (y1 7), (y1 8), (y1 9), (y1 10), (y1 11), undef, undef, undef, undef, undef, undef, undef, undef, undef, undef, undef, undef, undef, undef, undef, undef, undef, undef, undef, undef, undef, undef, undef, undef, undef, undef, undef, undef, undef, undef, undef, undef, undef, undef, undef, undef, undef, undef, undef, undef]) ?_ ?_
  · skip
    refine AWp.seq ?_
    refine AWp.rowV (l := _) pok ?_
    refine sq.c (v := .slice a (ls.length) cp) rfl rfl rfl rfl ?_
    refine sq.c (v := .int .i64 (ls.length)) rfl rfl (by kernel_rfl) rfl ?_
    refine sq.c (v := .bool (decide (((ls.length : Nat) : Int) < (1 : Int)))) rfl rfl rfl rfl ?_
    refine sq.c (v := .bool (decide (((ls.length : Nat) : Int) < (1 : Int)))) rfl rfl rfl rfl ?_
    by_cases c1_2 : ((ls.length : Nat) : Int) < (1 : Int)
    · rw [decide_eq_true c1_2]
      refine sq.s (wantF (g := 3) (d := 7) rfl rfl rfl) rfl ?_
      refine sq.s (wantF (g := 3) (d := 7) rfl rfl rfl) rfl ?_
      refine sq.s (wantF (g := 3) (d := 7) rfl rfl rfl) rfl ?_
      refine sq.c (v := .bool true) rfl rfl rfl rfl ?_
      refine sq.e ?_
      refine AWp.condT rfl rfl ?_
      refine AWp.seq ?_
      refine AWp.rowV (l := _) pok ?_
      refine sq.c (v := .bool false) rfl rfl rfl rfl ?_
      refine sq.e ?_
      refine AWp.ret ?_
      -- end 1: c1_2
      refine ⟨rfl, [.bool false], rfl, .bool false, rfl, hs, hn, ?_⟩
      show Value.bool false = .bool (mayB ls)
      rw [may_len (by omega)]
    · rw [decide_eq_false c1_2]
      refine sq.c (v := .slice a (ls.length) cp) (wantT (g := 3) (d := 7) rfl rfl rfl) rfl rfl rfl ?_
      refine sq.c (v := .int .i64 (ls.length)) (wantT (g := 3) (d := 7) rfl rfl rfl) rfl (by kernel_rfl) rfl ?_
      refine sq.c (v := .bool (decide ((16 : Int) < ((ls.length : Nat) : Int)))) (wantT (g := 3) (d := 7) rfl rfl rfl) rfl rfl rfl ?_
      refine sq.c (v := .bool (decide ((16 : Int) < ((ls.length : Nat) : Int)))) rfl rfl rfl rfl ?_
      refine sq.e ?_
      by_cases c1_6 : (16 : Int) < ((ls.length : Nat) : Int)
      · rw [decide_eq_true c1_6]
        refine AWp.condT rfl rfl ?_
        refine AWp.seq ?_
        refine AWp.rowV (l := _) pok ?_
        refine sq.c (v := .bool false) rfl rfl rfl rfl ?_
        refine sq.e ?_
        refine AWp.ret ?_
        -- end 2: ¬c1_2 c1_6
        refine ⟨rfl, [.bool false], rfl, .bool false, rfl, hs, hn, ?_⟩
        show Value.bool false = .bool (mayB ls)
        rw [may_len (by omega)]
      · rw [decide_eq_false c1_6]
        refine AWp.condF rfl rfl ?_
        refine AWp.skip ?_
        refine ⟨_, rfl, rfl, hn, hf, (by omega), getV [undef, undef, .bool false, undef, .slice a (ls.length) cp, .int .i64 (ls.length), .bool false, .bool false, .slice a (ls.length) cp, .int .i64 (ls.length), .bool false, .bool false], rfl⟩
  · skip
    rintro vs h' n2 ⟨rfl, hn, hf, hmin, y1, rfl⟩
    refine AWp.seq ?_
    refine AWp.seq ?_
    refine AWp.rowV (l := _) pok ?_
    refine sq.c (v := .int .i64 (0)) rfl rfl rfl rfl ?_
    refine sq.e ?_
    refine AWp.block ?_
    refine AWp.loopV (fun d vs h' n4 => ∃ (i : Int), d = ((ls.length : Nat) - i + 1).toNat ∧ h = h' ∧ n ≤ n4 ∧ Free h n4 ∧ (0 ≤ i) ∧ (i ≤ (ls.length : Nat)) ∧ (∀ j : Nat, (j : Int) < i → okAt ls j = true) ∧ ∃ y3 : Nat → Value, vs = [.slice a (ls.length) cp, undef, (y3 2), .int .i64 (i), (y1 4), (y1 5), (y1 6), (y1 7), (y1 8), (y1 9), (y1 10), (y1 11), (y3 12), (y3 13), (y3 14), (y3 15), (y3 16), (y3 17), (y3 18), (y3 19), (y3 20), (y3 21), (y3 22), (y3 23), (y3 24), (y3 25), (y3 26), (y3 27), (y3 28), (y3 29), (y3 30), (y3 31), (y3 32), (y3 33), (y3 34), (y3 35), (y3 36), (y3 37), (y3 38), (y3 39), (y3 40), (y3 41), (y3 42), (y3 43), (y3 44), (y3 45), (y3 46), (y3 47), (y3 48), (y3 49), (y3 50), (y3 51)]) (((ls.length : Nat) - (0 : Int) + 1).toNat) ⟨0, rfl, rfl, hn, hf, (by omega), (by omega), (fun j hj => by omega), getV [undef, undef, (y1 2), undef, undef, undef, undef, undef, undef, undef, undef, undef, undef, undef, undef, undef, undef, undef, undef, undef, undef, undef, undef, undef, undef, undef, undef, undef, undef, undef, undef, undef, undef, undef, undef, undef, undef, undef, undef, undef, undef, undef, undef, undef, undef, undef, undef, undef, undef, undef, undef, undef], rfl⟩ ?_
    rintro d vs h' n4 ⟨i, rfl, rfl, hn, hf, hi0, hi1, hyes0, y3, rfl⟩
    refine AWp.seq ?_
    refine AWp.seq ?_
    refine AWp.rowV (l := _) pok ?_
    refine sq.c (v := .int .i64 (i)) rfl rfl rfl rfl ?_
    refine sq.c (v := .slice a (ls.length) cp) rfl rfl rfl rfl ?_
    refine sq.c (v := .int .i64 (ls.length)) rfl rfl (by kernel_rfl) rfl ?_
    refine sq.c (v := .bool (decide (i < ((ls.length : Nat) : Int)))) rfl rfl rfl rfl ?_
    refine sq.e ?_
    by_cases c4_3 : i < ((ls.length : Nat) : Int)
    · rw [decide_eq_true c4_3]
      refine AWp.condT rfl rfl ?_
      refine AWp.skip ?_
      refine AWp.seq ?_
      refine AWp.block ?_
      refine AWp.seq ?_
      refine AWp.anyV pok [] [0, 1, 2, 3, 4, 5, 6, 7, 8, 9, 10, 11, 12, 13, 14, 15, 16, 17, 18, 19, 20, 21, 22, 23, 24, 25, 26, 27, 28, 29, 30, 31, 32, 33] (by kernel_rfl) (by kernel_rfl) rfl (fun x fr fr' h n hd _ q => ⟨hd ▸ q.1, q.2⟩) ?_
      refine dq.c (v := .slice a (ls.length) cp) rfl (by kernel_rfl) rfl rfl rfl rfl ?_
      refine dq.c (v := .int .i64 (i)) rfl (by kernel_rfl) rfl rfl rfl rfl ?_
      have i11 : (0 : Int) ≤ (i : Int) := by omega
      obtain ⟨x12, hx_x12⟩ : ∃ x, (ls)[((i : Int)).toNat]? = some x := ⟨_, List.getElem?_eq_getElem (by omega)⟩
      have g_x12 := hsz x12 (List.mem_of_getElem? hx_x12)
      obtain ⟨b5, o6, cs_b5, ow_b5, ci_b5, ie10, hb7, hc8, hr9⟩ := IsRow.at (P := Tryz.prog) (t := 22) (e := 40) (k := .i64) (by kernel_rfl) (by kernel_rfl) (hl.keep hs) i11 hx_x12
      refine dq.c (v := .pointer (some ⟨b5, o6, none⟩)) rfl (by kernel_rfl) rfl rfl ie10 rfl ?_
      refine dq.c (v := .pointer (some ⟨b5, o6, none⟩)) rfl (by kernel_rfl) rfl rfl (by kernel_rfl) rfl ?_
      refine dq.g (v := .string (x12.1)) rfl (by kernel_rfl) rfl rfl (ld1 (P := Tryz.prog) (t := 9) (p := o6 + 0) (v := .string (x12.1)) (by kernel_rfl) (by kernel_rfl) hb7 (hc8 0 _ rfl)) rfl ?_
      refine dq.t (v := .bool (mayNameB (x12.1))) rfl (by kernel_rfl) rfl (CallsF.fn rfl (by kernel_rfl) rfl rfl) (fun hf => f21_spec _ g_x12.1) hf rfl ?_
      intro n13 hn2 hf
      have hn := Nat.le_trans hn hn2
      rcases Bool.eq_false_or_eq_true (mayNameB (x12.1)) with c6_5 | c6_5
      · rw [c6_5]
        refine dq.c (v := .bool false) rfl (by kernel_rfl) rfl rfl rfl rfl ?_
        refine dq.c (v := .bool false) rfl (by kernel_rfl) rfl rfl rfl rfl ?_
        refine dq.c (v := .slice a (ls.length) cp) rfl (by kernel_rfl) (wantT (g := 7) (d := 25) rfl rfl rfl) rfl rfl rfl ?_
        refine dq.c (v := .int .i64 (i)) rfl (by kernel_rfl) (wantT (g := 7) (d := 25) rfl rfl rfl) rfl rfl rfl ?_
        have i20 : (0 : Int) ≤ (i : Int) := by omega
        obtain ⟨b14, o15, cs_b14, ow_b14, ci_b14, ie19, hb16, hc17, hr18⟩ := IsRow.at (P := Tryz.prog) (t := 22) (e := 40) (k := .i64) (by kernel_rfl) (by kernel_rfl) (hl.keep hs) i20 hx_x12
        refine dq.c (v := .pointer (some ⟨b14, o15, none⟩)) rfl (by kernel_rfl) (wantT (g := 7) (d := 25) rfl rfl rfl) rfl ie19 rfl ?_
        refine dq.c (v := .pointer (some ⟨b14, o15 + 1, none⟩)) rfl (by kernel_rfl) (wantT (g := 7) (d := 25) rfl rfl rfl) rfl (by kernel_rfl) rfl ?_
        refine dq.g (v := .string (x12.2)) rfl (by kernel_rfl) (wantT (g := 7) (d := 25) rfl rfl rfl) rfl (ld1 (P := Tryz.prog) (t := 9) (p := o15 + 1) (v := .string (x12.2)) (by kernel_rfl) (by kernel_rfl) hb16 (hc17 1 _ rfl)) rfl ?_
        refine dq.t (v := .bool (mayValueB (x12.2))) rfl (by kernel_rfl) (wantT (g := 7) (d := 25) rfl rfl rfl) (CallsF.fn rfl (by kernel_rfl) rfl rfl) (fun hf => f23_spec _ g_x12.2) hf rfl ?_
        intro n21 hn2 hf
        have hn := Nat.le_trans hn hn2
        rcases Bool.eq_false_or_eq_true (mayValueB (x12.2)) with c6_13 | c6_13
        · rw [c6_13]
          refine dq.c (v := .bool false) rfl (by kernel_rfl) (wantT (g := 7) (d := 25) rfl rfl rfl) rfl rfl rfl ?_
          refine dq.c (v := .bool false) rfl (by kernel_rfl) rfl rfl rfl rfl ?_
          refine dq.c (v := .bool false) rfl (by kernel_rfl) rfl rfl rfl rfl ?_
          refine dq.c (v := .int .i64 (i)) rfl (by kernel_rfl) (wantT (g := 16) (d := 34) rfl rfl rfl) rfl rfl rfl ?_
          refine dq.c (v := .bool (decide ((0 : Int) < i))) rfl (by kernel_rfl) (wantT (g := 16) (d := 34) rfl rfl rfl) rfl rfl rfl ?_
          refine dq.c (v := .bool (decide ((0 : Int) < i))) rfl (by kernel_rfl) (wantT (g := 16) (d := 34) rfl rfl rfl) rfl rfl rfl ?_
          by_cases c6_18 : (0 : Int) < i
          · rw [decide_eq_true c6_18]
            refine dq.c (v := .slice a (ls.length) cp) rfl (by kernel_rfl) (wantT (g := 19) (d := 37) rfl rfl rfl) rfl rfl rfl ?_
            refine dq.c (v := .int .i64 (i)) rfl (by kernel_rfl) (wantT (g := 19) (d := 37) rfl rfl rfl) rfl rfl rfl ?_
            have i28 : (0 : Int) ≤ (i : Int) := by omega
            obtain ⟨b22, o23, cs_b22, ow_b22, ci_b22, ie27, hb24, hc25, hr26⟩ := IsRow.at (P := Tryz.prog) (t := 22) (e := 40) (k := .i64) (by kernel_rfl) (by kernel_rfl) (hl.keep hs) i28 hx_x12
            refine dq.c (v := .pointer (some ⟨b22, o23, none⟩)) rfl (by kernel_rfl) (wantT (g := 19) (d := 37) rfl rfl rfl) rfl ie27 rfl ?_
            refine dq.c (v := .pointer (some ⟨b22, o23, none⟩)) rfl (by kernel_rfl) (wantT (g := 19) (d := 37) rfl rfl rfl) rfl (by kernel_rfl) rfl ?_
            refine dq.g (v := .string (x12.1)) rfl (by kernel_rfl) (wantT (g := 19) (d := 37) rfl rfl rfl) rfl (ld1 (P := Tryz.prog) (t := 9) (p := o23 + 0) (v := .string (x12.1)) (by kernel_rfl) (by kernel_rfl) hb24 (hc25 0 _ rfl)) rfl ?_
            refine dq.c (v := .slice a (ls.length) cp) rfl (by kernel_rfl) (wantT (g := 19) (d := 37) rfl rfl rfl) rfl rfl rfl ?_
            refine dq.c (v := .int .i64 (i)) rfl (by kernel_rfl) (wantT (g := 19) (d := 37) rfl rfl rfl) rfl rfl rfl ?_
            refine dq.c (v := .int .i64 (i - 1)) rfl (by kernel_rfl) (wantT (g := 19) (d := 37) rfl rfl rfl) rfl (okI (wrap_i64 (by omega) (by omega))) rfl ?_
            have i35 : (0 : Int) ≤ (i - 1 : Int) := by omega
            obtain ⟨x36, hx_x36⟩ : ∃ x, (ls)[((i - 1 : Int)).toNat]? = some x := ⟨_, List.getElem?_eq_getElem (by omega)⟩
            have g_x36 := hsz x36 (List.mem_of_getElem? hx_x36)
            obtain ⟨b29, o30, cs_b29, ow_b29, ci_b29, ie34, hb31, hc32, hr33⟩ := IsRow.at (P := Tryz.prog) (t := 22) (e := 40) (k := .i64) (by kernel_rfl) (by kernel_rfl) (hl.keep hs) i35 hx_x36
            refine dq.c (v := .pointer (some ⟨b29, o30, none⟩)) rfl (by kernel_rfl) (wantT (g := 19) (d := 37) rfl rfl rfl) rfl ie34 rfl ?_
            refine dq.c (v := .pointer (some ⟨b29, o30, none⟩)) rfl (by kernel_rfl) (wantT (g := 19) (d := 37) rfl rfl rfl) rfl (by kernel_rfl) rfl ?_
            refine dq.g (v := .string (x36.1)) rfl (by kernel_rfl) (wantT (g := 19) (d := 37) rfl rfl rfl) rfl (ld1 (P := Tryz.prog) (t := 9) (p := o30 + 0) (v := .string (x36.1)) (by kernel_rfl) (by kernel_rfl) hb31 (hc32 0 _ rfl)) rfl ?_
            refine dq.c (v := .bool ((lessS x12.1 x36.1 || eqS x12.1 x36.1))) rfl (by kernel_rfl) (wantT (g := 19) (d := 37) rfl rfl rfl) rfl rfl rfl ?_
            refine dq.c (v := .bool ((lessS x12.1 x36.1 || eqS x12.1 x36.1))) rfl (by kernel_rfl) (wantT (g := 16) (d := 34) rfl rfl rfl) rfl rfl rfl ?_
            refine dq.c (v := .bool ((lessS x12.1 x36.1 || eqS x12.1 x36.1))) rfl (by kernel_rfl) rfl rfl rfl rfl ?_
            refine dq.e ?_
            rcases Bool.eq_false_or_eq_true ((lessS x12.1 x36.1 || eqS x12.1 x36.1)) with c6_31 | c6_31
            · rw [c6_31]
              refine AWp.condT rfl rfl ?_
              refine AWp.seq ?_
              refine AWp.rowV (l := _) pok ?_
              refine sq.c (v := .bool false) rfl rfl rfl rfl ?_
              refine sq.e ?_
              refine AWp.ret ?_
              -- end 3: J3 L4 c4_3 c6_5 c6_13 c6_18 c6_31
              refine ⟨rfl, [.bool false], rfl, .bool false, rfl, hs, hn, ?_⟩
              show Value.bool false = .bool (mayB ls)
              rw [may_row hx_x12 (by omega) (by rw [show i.toNat - 1 = (i - 1).toNat by omega]; exact hx_x36) c6_31]
            · rw [c6_31]
              refine AWp.condF rfl rfl ?_
              refine AWp.skip ?_
              refine AWp.rowV (l := _) pok ?_
              refine sq.c (v := .int .i64 (i)) rfl rfl rfl rfl ?_
              refine sq.c (v := .int .i64 (i + 1)) rfl rfl (okI (wrap_i64 (by omega) (by omega))) rfl ?_
              refine sq.c (v := .int .i64 (i + 1)) rfl rfl rfl rfl ?_
              refine sq.e ?_
              have ok1 : okAt ls i.toNat = true := okAt_yes hx_x12 c6_5 c6_13 (.inr ⟨_, by rw [show i.toNat - 1 = (i - 1).toNat by omega]; exact hx_x36, c6_31⟩)
              have hy : ∀ j : Nat, (j : Int) < i + 1 → okAt ls j = true := by
                intro j hj
                by_cases e : j = i.toNat
                · rw [e]; exact ok1
                · exact hyes0 j (by omega)
              refine ⟨_, _, rfl, by omega, i + 1, rfl, rfl, hn, hf, (by omega), (by omega), (hy), getV [undef, undef, (y3 2), undef, undef, undef, undef, undef, undef, undef, undef, undef, .int .i64 (i), .slice a (ls.length) cp, .int .i64 (ls.length), .bool true, .int .i64 (i), .int .i64 (i + 1), .slice a (ls.length) cp, .int .i64 (i), .pointer (some ⟨b5, o6, none⟩), .pointer (some ⟨b5, o6, none⟩), .string (x12.1), .bool true, .bool false, .bool false, .slice a (ls.length) cp, .int .i64 (i), .pointer (some ⟨b14, o15, none⟩), .pointer (some ⟨b14, o15 + 1, none⟩), .string (x12.2), .bool true, .bool false, .bool false, .bool false, .int .i64 (i), .bool true, .bool true, .slice a (ls.length) cp, .int .i64 (i), .pointer (some ⟨b22, o23, none⟩), .pointer (some ⟨b22, o23, none⟩), .string (x12.1), .slice a (ls.length) cp, .int .i64 (i), .int .i64 (i - 1), .pointer (some ⟨b29, o30, none⟩), .pointer (some ⟨b29, o30, none⟩), .string (x36.1), .bool false, .bool false, .bool false], rfl⟩
          · rw [decide_eq_false c6_18]
            refine dq.s rfl (wantF (g := 19) (d := 37) rfl rfl rfl) rfl ?_
            refine dq.s rfl (wantF (g := 19) (d := 37) rfl rfl rfl) rfl ?_
            refine dq.s rfl (wantF (g := 19) (d := 37) rfl rfl rfl) rfl ?_
            refine dq.s rfl (wantF (g := 19) (d := 37) rfl rfl rfl) rfl ?_
            refine dq.s rfl (wantF (g := 19) (d := 37) rfl rfl rfl) rfl ?_
            refine dq.s rfl (wantF (g := 19) (d := 37) rfl rfl rfl) rfl ?_
            refine dq.s rfl (wantF (g := 19) (d := 37) rfl rfl rfl) rfl ?_
            refine dq.s rfl (wantF (g := 19) (d := 37) rfl rfl rfl) rfl ?_
            refine dq.s rfl (wantF (g := 19) (d := 37) rfl rfl rfl) rfl ?_
            refine dq.s rfl (wantF (g := 19) (d := 37) rfl rfl rfl) rfl ?_
            refine dq.s rfl (wantF (g := 19) (d := 37) rfl rfl rfl) rfl ?_
            refine dq.s rfl (wantF (g := 19) (d := 37) rfl rfl rfl) rfl ?_
            refine dq.c (v := .bool false) rfl (by kernel_rfl) (wantT (g := 16) (d := 34) rfl rfl rfl) rfl rfl rfl ?_
            refine dq.c (v := .bool false) rfl (by kernel_rfl) rfl rfl rfl rfl ?_
            refine dq.e ?_
            refine AWp.condF rfl rfl ?_
            refine AWp.skip ?_
            refine AWp.rowV (l := _) pok ?_
            refine sq.c (v := .int .i64 (i)) rfl rfl rfl rfl ?_
            refine sq.c (v := .int .i64 (i + 1)) rfl rfl (okI (wrap_i64 (by omega) (by omega))) rfl ?_
            refine sq.c (v := .int .i64 (i + 1)) rfl rfl rfl rfl ?_
            refine sq.e ?_
            have ok1 : okAt ls i.toNat = true := okAt_yes hx_x12 c6_5 c6_13 (.inl (by omega))
            have hy : ∀ j : Nat, (j : Int) < i + 1 → okAt ls j = true := by
              intro j hj
              by_cases e : j = i.toNat
              · rw [e]; exact ok1
              · exact hyes0 j (by omega)
            refine ⟨_, _, rfl, by omega, i + 1, rfl, rfl, hn, hf, (by omega), (by omega), (hy), getV [undef, undef, (y3 2), undef, undef, undef, undef, undef, undef, undef, undef, undef, .int .i64 (i), .slice a (ls.length) cp, .int .i64 (ls.length), .bool true, .int .i64 (i), .int .i64 (i + 1), .slice a (ls.length) cp, .int .i64 (i), .pointer (some ⟨b5, o6, none⟩), .pointer (some ⟨b5, o6, none⟩), .string (x12.1), .bool true, .bool false, .bool false, .slice a (ls.length) cp, .int .i64 (i), .pointer (some ⟨b14, o15, none⟩), .pointer (some ⟨b14, o15 + 1, none⟩), .string (x12.2), .bool true, .bool false, .bool false, .bool false, .int .i64 (i), .bool false, .bool false, undef, undef, undef, undef, undef, undef, undef, undef, undef, undef, undef, undef, .bool false, .bool false], rfl⟩
        · rw [c6_13]
          refine dq.c (v := .bool true) rfl (by kernel_rfl) rfl rfl rfl rfl ?_
          refine dq.c (v := .bool true) rfl (by kernel_rfl) rfl rfl rfl rfl ?_
          refine dq.c (v := .bool true) rfl (by kernel_rfl) rfl rfl rfl rfl ?_
          refine dq.s rfl (wantF (g := 16) (d := 34) rfl rfl rfl) rfl ?_
          refine dq.s rfl (wantF (g := 16) (d := 34) rfl rfl rfl) rfl ?_
          refine dq.s rfl (wantF (g := 16) (d := 34) rfl rfl rfl) rfl ?_
          refine dq.s rfl (wantU (g := 19) (d := 37) rfl rfl rfl) rfl ?_
          refine dq.s rfl (wantU (g := 19) (d := 37) rfl rfl rfl) rfl ?_
          refine dq.s rfl (wantU (g := 19) (d := 37) rfl rfl rfl) rfl ?_
          refine dq.s rfl (wantU (g := 19) (d := 37) rfl rfl rfl) rfl ?_
          refine dq.s rfl (wantU (g := 19) (d := 37) rfl rfl rfl) rfl ?_
          refine dq.s rfl (wantU (g := 19) (d := 37) rfl rfl rfl) rfl ?_
          refine dq.s rfl (wantU (g := 19) (d := 37) rfl rfl rfl) rfl ?_
          refine dq.s rfl (wantU (g := 19) (d := 37) rfl rfl rfl) rfl ?_
          refine dq.s rfl (wantU (g := 19) (d := 37) rfl rfl rfl) rfl ?_
          refine dq.s rfl (wantU (g := 19) (d := 37) rfl rfl rfl) rfl ?_
          refine dq.s rfl (wantU (g := 19) (d := 37) rfl rfl rfl) rfl ?_
          refine dq.s rfl (wantU (g := 19) (d := 37) rfl rfl rfl) rfl ?_
          refine dq.s rfl (wantF (g := 16) (d := 34) rfl rfl rfl) rfl ?_
          refine dq.c (v := .bool true) rfl (by kernel_rfl) rfl rfl rfl rfl ?_
          refine dq.e ?_
          refine AWp.condT rfl rfl ?_
          refine AWp.seq ?_
          refine AWp.rowV (l := _) pok ?_
          refine sq.c (v := .bool false) rfl rfl rfl rfl ?_
          refine sq.e ?_
          refine AWp.ret ?_
          -- end 4: J3 L4 c4_3 c6_5 ¬c6_13
          refine ⟨rfl, [.bool false], rfl, .bool false, rfl, hs, hn, ?_⟩
          show Value.bool false = .bool (mayB ls)
          rw [may_bad hx_x12 (.inr c6_13)]
      · rw [c6_5]
        refine dq.c (v := .bool true) rfl (by kernel_rfl) rfl rfl rfl rfl ?_
        refine dq.c (v := .bool true) rfl (by kernel_rfl) rfl rfl rfl rfl ?_
        refine dq.s rfl (wantF (g := 7) (d := 25) rfl rfl rfl) rfl ?_
        refine dq.s rfl (wantF (g := 7) (d := 25) rfl rfl rfl) rfl ?_
        refine dq.s rfl (wantF (g := 7) (d := 25) rfl rfl rfl) rfl ?_
        refine dq.s rfl (wantF (g := 7) (d := 25) rfl rfl rfl) rfl ?_
        refine dq.s rfl (wantF (g := 7) (d := 25) rfl rfl rfl) rfl ?_
        refine dq.s rfl (wantF (g := 7) (d := 25) rfl rfl rfl) rfl ?_
        refine dq.s rfl (wantF (g := 7) (d := 25) rfl rfl rfl) rfl ?_
        refine dq.c (v := .bool true) rfl (by kernel_rfl) rfl rfl rfl rfl ?_
        refine dq.c (v := .bool true) rfl (by kernel_rfl) rfl rfl rfl rfl ?_
        refine dq.s rfl (wantF (g := 16) (d := 34) rfl rfl rfl) rfl ?_
        refine dq.s rfl (wantF (g := 16) (d := 34) rfl rfl rfl) rfl ?_
        refine dq.s rfl (wantF (g := 16) (d := 34) rfl rfl rfl) rfl ?_
        refine dq.s rfl (wantU (g := 19) (d := 37) rfl rfl rfl) rfl ?_
        refine dq.s rfl (wantU (g := 19) (d := 37) rfl rfl rfl) rfl ?_
        refine dq.s rfl (wantU (g := 19) (d := 37) rfl rfl rfl) rfl ?_
        refine dq.s rfl (wantU (g := 19) (d := 37) rfl rfl rfl) rfl ?_
        refine dq.s rfl (wantU (g := 19) (d := 37) rfl rfl rfl) rfl ?_
        refine dq.s rfl (wantU (g := 19) (d := 37) rfl rfl rfl) rfl ?_
        refine dq.s rfl (wantU (g := 19) (d := 37) rfl rfl rfl) rfl ?_
        refine dq.s rfl (wantU (g := 19) (d := 37) rfl rfl rfl) rfl ?_
        refine dq.s rfl (wantU (g := 19) (d := 37) rfl rfl rfl) rfl ?_
        refine dq.s rfl (wantU (g := 19) (d := 37) rfl rfl rfl) rfl ?_
        refine dq.s rfl (wantU (g := 19) (d := 37) rfl rfl rfl) rfl ?_
        refine dq.s rfl (wantU (g := 19) (d := 37) rfl rfl rfl) rfl ?_
        refine dq.s rfl (wantF (g := 16) (d := 34) rfl rfl rfl) rfl ?_
        refine dq.c (v := .bool true) rfl (by kernel_rfl) rfl rfl rfl rfl ?_
        refine dq.e ?_
        refine AWp.condT rfl rfl ?_
        refine AWp.seq ?_
        refine AWp.rowV (l := _) pok ?_
        refine sq.c (v := .bool false) rfl rfl rfl rfl ?_
        refine sq.e ?_
        refine AWp.ret ?_
        -- end 5: J3 L4 c4_3 ¬c6_5
        refine ⟨rfl, [.bool false], rfl, .bool false, rfl, hs, hn, ?_⟩
        show Value.bool false = .bool (mayB ls)
        rw [may_bad hx_x12 (.inl c6_5)]
    · rw [decide_eq_false c4_3]
      refine AWp.condF rfl rfl ?_
      refine AWp.exit ?_
      refine AWp.seq ?_
      refine AWp.rowV (l := _) pok ?_
      refine sq.c (v := .bool true) rfl rfl rfl rfl ?_
      refine sq.e ?_
      refine AWp.ret ?_
      -- end 6: J3 L4 ¬c4_3
      refine ⟨rfl, [.bool true], rfl, .bool true, rfl, hs, hn, ?_⟩
      show Value.bool true = .bool (mayB ls)
      have hyes : ∀ j : Nat, j < ls.length → okAt ls j = true := fun j hj => hyes0 j (by omega)
      rw [may_all hyes]; exact congrArg Value.bool (decide_eq_true (by omega)).symm

/-- baton/batonref05.Same -/
theorem f27_spec {h : Heap} {n : Nat} {a a2 : Option Addr} {cp cp2 : Nat} (ls ms : List Lab) (hl : IsRow encLab h (.slice a ls.length cp) ls) (hm : IsRow encLab h (.slice a2 ms.length cp2) ms) (hlen : ls.length < 9223372036854775808) :
    Tells Tryz.prog 27 [.slice a (ls.length) cp, .slice a2 (ms.length) cp2] h n (.bool (decide (ls = ms))) := by
  refine Makes.tells (Makes.free fun hf => ?_)
  have hs : SubBut h h [] := .refl _ _
  have hn : n ≤ n := Nat.le_refl _
  have hf0 := hf
  refine Makes.of_bodyV (args := [.slice a (ls.length) cp, .slice a2 (ms.length) cp2]) (vs := [.slice a (ls.length) cp, .slice a2 (ms.length) cp2, undef, undef, undef, undef, undef, undef, undef, undef, undef, undef, undef, undef, undef, undef, undef, undef, undef, undef, undef, undef, undef, undef, undef, undef, undef, undef, undef, undef, undef, undef, undef, undef, undef, undef, undef, undef, undef, undef, undef]) Tryz.func27 rfl rfl ?_
  refine AWp.seq ?_
  refine AWp.rowV (l := _) pok ?_
  refine sq.c (v := .bool false) rfl rfl rfl rfl ?_
  refine sq.e ?_
  refine AWp.seq ?_
  refine AWp.seq ?_
  refine AWp.rowV (l := _) pok ?_
  refine sq.c (v := .slice a (ls.length) cp) rfl rfl rfl rfl ?_
  refine sq.c (v := .int .i64 (ls.length)) rfl rfl (by kernel_rfl) rfl ?_
  refine sq.c (v := .slice a2 (ms.length) cp2) rfl rfl rfl rfl ?_
  refine sq.c (v := .int .i64 (ms.length)) rfl rfl (by kernel_rfl) rfl ?_
  refine sq.c (v := .bool (!decide (((ls.length : Nat) : Int) = ((ms.length : Nat) : Int)))) rfl rfl rfl rfl ?_
  refine sq.e ?_
  by_cases c1_4 : ((ls.length : Nat) : Int) = ((ms.length : Nat) : Int)
  · rw [decide_eq_true c1_4]
    refine AWp.condF rfl rfl ?_
    refine AWp.skip ?_
    refine AWp.seq ?_
    refine AWp.seq ?_
    refine AWp.rowV (l := _) pok ?_
    refine sq.c (v := .int .i64 (0)) rfl rfl rfl rfl ?_
    refine sq.e ?_
    refine AWp.block ?_
    refine AWp.loopV (fun d vs h' n2 => ∃ (i : Int), d = ((ls.length : Nat) - i + 1).toNat ∧ h = h' ∧ n ≤ n2 ∧ Free h n2 ∧ (0 ≤ i) ∧ (i ≤ (ls.length : Nat)) ∧ (∀ j : Nat, (j : Int) < i → ls[j]? = ms[j]?) ∧ ∃ y1 : Nat → Value, vs = [.slice a (ls.length) cp, .slice a2 (ms.length) cp2, undef, undef, (y1 4), .int .i64 (i), .slice a (ls.length) cp, .int .i64 (ls.length), .slice a2 (ms.length) cp2, .int .i64 (ms.length), .bool false, (y1 11), (y1 12), (y1 13), (y1 14), (y1 15), (y1 16), (y1 17), (y1 18), (y1 19), (y1 20), (y1 21), (y1 22), (y1 23), (y1 24), (y1 25), (y1 26), (y1 27), (y1 28), (y1 29), (y1 30), (y1 31), (y1 32), (y1 33), (y1 34), (y1 35), (y1 36), (y1 37), (y1 38), (y1 39), (y1 40)]) (((ls.length : Nat) - (0 : Int) + 1).toNat) ⟨0, rfl, rfl, hn, hf, (by omega), (by omega), (fun j hj => by omega), getV [undef, undef, undef, undef, .bool false, undef, undef, undef, undef, undef, undef, undef, undef, undef, undef, undef, undef, undef, undef, undef, undef, undef, undef, undef, undef, undef, undef, undef, undef, undef, undef, undef, undef, undef, undef, undef, undef, undef, undef, undef, undef], rfl⟩ ?_
    rintro d vs h' n2 ⟨i, rfl, rfl, hn, hf, hi0, hi1, hyes, y1, rfl⟩
    refine AWp.seq ?_
    refine AWp.seq ?_
    refine AWp.rowV (l := _) pok ?_
    refine sq.c (v := .int .i64 (i)) rfl rfl rfl rfl ?_
    refine sq.c (v := .slice a (ls.length) cp) rfl rfl rfl rfl ?_
    refine sq.c (v := .int .i64 (ls.length)) rfl rfl (by kernel_rfl) rfl ?_
    refine sq.c (v := .bool (decide (i < ((ls.length : Nat) : Int)))) rfl rfl rfl rfl ?_
    refine sq.e ?_
    by_cases c4_3 : i < ((ls.length : Nat) : Int)
    · rw [decide_eq_true c4_3]
      refine AWp.condT rfl rfl ?_
      refine AWp.skip ?_
      refine AWp.seq ?_
      refine AWp.block ?_
      refine AWp.seq ?_
      refine AWp.anyV pok [] [0, 1, 2, 3, 4, 5, 6, 7, 8, 9, 10, 11, 12, 13, 14, 15, 16, 17, 18, 19, 20, 21, 22, 23] (by kernel_rfl) (by kernel_rfl) rfl (fun x fr fr' h n hd _ q => ⟨hd ▸ q.1, q.2⟩) ?_
      refine dq.c (v := .slice a (ls.length) cp) rfl (by kernel_rfl) rfl rfl rfl rfl ?_
      refine dq.c (v := .int .i64 (i)) rfl (by kernel_rfl) rfl rfl rfl rfl ?_
      have i9 : (0 : Int) ≤ (i : Int) := by omega
      obtain ⟨x10, hx_x10⟩ : ∃ x, (ls)[((i : Int)).toNat]? = some x := ⟨_, List.getElem?_eq_getElem (by omega)⟩
      obtain ⟨b3, o4, cs_b3, ow_b3, ci_b3, ie8, hb5, hc6, hr7⟩ := IsRow.at (P := Tryz.prog) (t := 22) (e := 40) (k := .i64) (by kernel_rfl) (by kernel_rfl) (hl.keep hs) i9 hx_x10
      refine dq.c (v := .pointer (some ⟨b3, o4, none⟩)) rfl (by kernel_rfl) rfl rfl ie8 rfl ?_
      refine dq.c (v := .pointer (some ⟨b3, o4, none⟩)) rfl (by kernel_rfl) rfl rfl (by kernel_rfl) rfl ?_
      refine dq.g (v := .string (x10.1)) rfl (by kernel_rfl) rfl rfl (ld1 (P := Tryz.prog) (t := 9) (p := o4 + 0) (v := .string (x10.1)) (by kernel_rfl) (by kernel_rfl) hb5 (hc6 0 _ rfl)) rfl ?_
      refine dq.c (v := .slice a2 (ms.length) cp2) rfl (by kernel_rfl) rfl rfl rfl rfl ?_
      refine dq.c (v := .int .i64 (i)) rfl (by kernel_rfl) rfl rfl rfl rfl ?_
      have i17 : (0 : Int) ≤ (i : Int) := by omega
      obtain ⟨x18, hx_x18⟩ : ∃ x, (ms)[((i : Int)).toNat]? = some x := ⟨_, List.getElem?_eq_getElem (by omega)⟩
      obtain ⟨b11, o12, cs_b11, ow_b11, ci_b11, ie16, hb13, hc14, hr15⟩ := IsRow.at (P := Tryz.prog) (t := 22) (e := 40) (k := .i64) (by kernel_rfl) (by kernel_rfl) (hm.keep hs) i17 hx_x18
      refine dq.c (v := .pointer (some ⟨b11, o12, none⟩)) rfl (by kernel_rfl) rfl rfl ie16 rfl ?_
      refine dq.c (v := .pointer (some ⟨b11, o12, none⟩)) rfl (by kernel_rfl) rfl rfl (by kernel_rfl) rfl ?_
      refine dq.g (v := .string (x18.1)) rfl (by kernel_rfl) rfl rfl (ld1 (P := Tryz.prog) (t := 9) (p := o12 + 0) (v := .string (x18.1)) (by kernel_rfl) (by kernel_rfl) hb13 (hc14 0 _ rfl)) rfl ?_
      refine dq.c (v := .bool (!decide (x10.1 = x18.1))) rfl (by kernel_rfl) rfl rfl (neD _ _) rfl ?_
      refine dq.c (v := .bool (!decide (x10.1 = x18.1))) rfl (by kernel_rfl) rfl rfl rfl rfl ?_
      by_cases c6_10 : x10.1 = x18.1
      · rw [decide_eq_true c6_10]
        refine dq.c (v := .slice a (ls.length) cp) rfl (by kernel_rfl) (wantT (g := 11) (d := 28) rfl rfl rfl) rfl rfl rfl ?_
        refine dq.c (v := .int .i64 (i)) rfl (by kernel_rfl) (wantT (g := 11) (d := 28) rfl rfl rfl) rfl rfl rfl ?_
        have i25 : (0 : Int) ≤ (i : Int) := by omega
        obtain ⟨b19, o20, cs_b19, ow_b19, ci_b19, ie24, hb21, hc22, hr23⟩ := IsRow.at (P := Tryz.prog) (t := 22) (e := 40) (k := .i64) (by kernel_rfl) (by kernel_rfl) (hl.keep hs) i25 hx_x10
        refine dq.c (v := .pointer (some ⟨b19, o20, none⟩)) rfl (by kernel_rfl) (wantT (g := 11) (d := 28) rfl rfl rfl) rfl ie24 rfl ?_
        refine dq.c (v := .pointer (some ⟨b19, o20 + 1, none⟩)) rfl (by kernel_rfl) (wantT (g := 11) (d := 28) rfl rfl rfl) rfl (by kernel_rfl) rfl ?_
        refine dq.g (v := .string (x10.2)) rfl (by kernel_rfl) (wantT (g := 11) (d := 28) rfl rfl rfl) rfl (ld1 (P := Tryz.prog) (t := 9) (p := o20 + 1) (v := .string (x10.2)) (by kernel_rfl) (by kernel_rfl) hb21 (hc22 1 _ rfl)) rfl ?_
        refine dq.c (v := .slice a2 (ms.length) cp2) rfl (by kernel_rfl) (wantT (g := 11) (d := 28) rfl rfl rfl) rfl rfl rfl ?_
        refine dq.c (v := .int .i64 (i)) rfl (by kernel_rfl) (wantT (g := 11) (d := 28) rfl rfl rfl) rfl rfl rfl ?_
        have i32 : (0 : Int) ≤ (i : Int) := by omega
        obtain ⟨b26, o27, cs_b26, ow_b26, ci_b26, ie31, hb28, hc29, hr30⟩ := IsRow.at (P := Tryz.prog) (t := 22) (e := 40) (k := .i64) (by kernel_rfl) (by kernel_rfl) (hm.keep hs) i32 hx_x18
        refine dq.c (v := .pointer (some ⟨b26, o27, none⟩)) rfl (by kernel_rfl) (wantT (g := 11) (d := 28) rfl rfl rfl) rfl ie31 rfl ?_
        refine dq.c (v := .pointer (some ⟨b26, o27 + 1, none⟩)) rfl (by kernel_rfl) (wantT (g := 11) (d := 28) rfl rfl rfl) rfl (by kernel_rfl) rfl ?_
        refine dq.g (v := .string (x18.2)) rfl (by kernel_rfl) (wantT (g := 11) (d := 28) rfl rfl rfl) rfl (ld1 (P := Tryz.prog) (t := 9) (p := o27 + 1) (v := .string (x18.2)) (by kernel_rfl) (by kernel_rfl) hb28 (hc29 1 _ rfl)) rfl ?_
        refine dq.c (v := .bool (!decide (x10.2 = x18.2))) rfl (by kernel_rfl) (wantT (g := 11) (d := 28) rfl rfl rfl) rfl (neD _ _) rfl ?_
        refine dq.c (v := .bool (!decide (x10.2 = x18.2))) rfl (by kernel_rfl) rfl rfl rfl rfl ?_
        refine dq.e ?_
        by_cases c6_22 : x10.2 = x18.2
        · rw [decide_eq_true c6_22]
          refine AWp.condF rfl rfl ?_
          refine AWp.skip ?_
          refine AWp.rowV (l := _) pok ?_
          refine sq.c (v := .int .i64 (i)) rfl rfl rfl rfl ?_
          refine sq.c (v := .int .i64 (i + 1)) rfl rfl (okI (wrap_i64 (by omega) (by omega))) rfl ?_
          refine sq.c (v := .int .i64 (i + 1)) rfl rfl rfl rfl ?_
          refine sq.e ?_
          have hy : ∀ j : Nat, (j : Int) < i + 1 → ls[j]? = ms[j]? := by
            intro j hj
            by_cases e : j = i.toNat
            · rw [e, hx_x10, hx_x18, show x10 = x18 from Prod.ext c6_10 c6_22]
            · exact hyes j (by omega)
          refine ⟨_, _, rfl, by omega, i + 1, rfl, rfl, hn, hf, (by omega), (by omega), (hy), getV [undef, undef, undef, undef, (y1 4), undef, undef, undef, undef, undef, undef, .int .i64 (i), .slice a (ls.length) cp, .int .i64 (ls.length), .bool true, .int .i64 (i), .int .i64 (i + 1), .slice a (ls.length) cp, .int .i64 (i), .pointer (some ⟨b3, o4, none⟩), .pointer (some ⟨b3, o4, none⟩), .string (x10.1), .slice a2 (ms.length) cp2, .int .i64 (i), .pointer (some ⟨b11, o12, none⟩), .pointer (some ⟨b11, o12, none⟩), .string (x18.1), .bool false, .bool false, .slice a (ls.length) cp, .int .i64 (i), .pointer (some ⟨b19, o20, none⟩), .pointer (some ⟨b19, o20 + 1, none⟩), .string (x10.2), .slice a2 (ms.length) cp2, .int .i64 (i), .pointer (some ⟨b26, o27, none⟩), .pointer (some ⟨b26, o27 + 1, none⟩), .string (x18.2), .bool false, .bool false], rfl⟩
        · rw [decide_eq_false c6_22]
          refine AWp.condT rfl rfl ?_
          refine AWp.seq ?_
          refine AWp.rowV (l := _) pok ?_
          refine sq.c (v := .bool false) rfl rfl rfl rfl ?_
          refine sq.e ?_
          refine AWp.ret ?_
          -- end 1: c1_4 L4 c4_3 c6_10 ¬c6_22
          refine ⟨rfl, [.bool false], rfl, .bool false, rfl, hs, hn, ?_⟩
          show Value.bool false = .bool (decide (ls = ms))
          exact congrArg Value.bool (decide_eq_false (same_not hx_x10 hx_x18 (by intro e; rw [e] at c6_22; exact c6_22 rfl))).symm
      · rw [decide_eq_false c6_10]
        refine dq.s rfl (wantF (g := 11) (d := 28) rfl rfl rfl) rfl ?_
        refine dq.s rfl (wantF (g := 11) (d := 28) rfl rfl rfl) rfl ?_
        refine dq.s rfl (wantF (g := 11) (d := 28) rfl rfl rfl) rfl ?_
        refine dq.s rfl (wantF (g := 11) (d := 28) rfl rfl rfl) rfl ?_
        refine dq.s rfl (wantF (g := 11) (d := 28) rfl rfl rfl) rfl ?_
        refine dq.s rfl (wantF (g := 11) (d := 28) rfl rfl rfl) rfl ?_
        refine dq.s rfl (wantF (g := 11) (d := 28) rfl rfl rfl) rfl ?_
        refine dq.s rfl (wantF (g := 11) (d := 28) rfl rfl rfl) rfl ?_
        refine dq.s rfl (wantF (g := 11) (d := 28) rfl rfl rfl) rfl ?_
        refine dq.s rfl (wantF (g := 11) (d := 28) rfl rfl rfl) rfl ?_
        refine dq.s rfl (wantF (g := 11) (d := 28) rfl rfl rfl) rfl ?_
        refine dq.c (v := .bool true) rfl (by kernel_rfl) rfl rfl rfl rfl ?_
        refine dq.e ?_
        refine AWp.condT rfl rfl ?_
        refine AWp.seq ?_
        refine AWp.rowV (l := _) pok ?_
        refine sq.c (v := .bool false) rfl rfl rfl rfl ?_
        refine sq.e ?_
        refine AWp.ret ?_
        -- end 2: c1_4 L4 c4_3 ¬c6_10
        refine ⟨rfl, [.bool false], rfl, .bool false, rfl, hs, hn, ?_⟩
        show Value.bool false = .bool (decide (ls = ms))
        exact congrArg Value.bool (decide_eq_false (same_not hx_x10 hx_x18 (by intro e; rw [e] at c6_10; exact c6_10 rfl))).symm
    · rw [decide_eq_false c4_3]
      refine AWp.condF rfl rfl ?_
      refine AWp.exit ?_
      refine AWp.seq ?_
      refine AWp.rowV (l := _) pok ?_
      refine sq.c (v := .bool true) rfl rfl rfl rfl ?_
      refine sq.e ?_
      refine AWp.ret ?_
      -- end 3: c1_4 L4 ¬c4_3
      refine ⟨rfl, [.bool true], rfl, .bool true, rfl, hs, hn, ?_⟩
      show Value.bool true = .bool (decide (ls = ms))
      exact congrArg Value.bool (decide_eq_true (same_all (Int.ofNat.inj c1_4) (fun j hj => hyes j (by omega)))).symm
  · rw [decide_eq_false c1_4]
    refine AWp.condT rfl rfl ?_
    refine AWp.seq ?_
    refine AWp.rowV (l := _) pok ?_
    refine sq.c (v := .bool false) rfl rfl rfl rfl ?_
    refine sq.e ?_
    refine AWp.ret ?_
    -- end 4: ¬c1_4
    refine ⟨rfl, [.bool false], rfl, .bool false, rfl, hs, hn, ?_⟩
    show Value.bool false = .bool (decide (ls = ms))
    exact congrArg Value.bool (decide_eq_false (fun e => c1_4 (by rw [e]))).symm

/-- slices.Equal[[]baton/api.Label,baton/api.Label] -/
theorem f47_spec {h : Heap} {n : Nat} {a a2 : Option Addr} {cp cp2 : Nat} (ls ms : List Lab) (hl : IsRow encLab h (.slice a ls.length cp) ls) (hm : IsRow encLab h (.slice a2 ms.length cp2) ms) (hlen : ls.length < 9223372036854775808) :
    Tells Tryz.prog 47 [.slice a (ls.length) cp, .slice a2 (ms.length) cp2] h n (.bool (decide (ls = ms))) := by
  refine Makes.tells (Makes.free fun hf => ?_)
  have hs : SubBut h h [] := .refl _ _
  have hn : n ≤ n := Nat.le_refl _
  have hf0 := hf
  refine Makes.of_bodyV (args := [.slice a (ls.length) cp, .slice a2 (ms.length) cp2]) (vs := [.slice a (ls.length) cp, .slice a2 (ms.length) cp2, undef, undef, undef, undef, undef, undef, undef, undef, undef, undef, undef, undef, undef, undef, undef, undef, undef, undef, undef, undef, undef, undef, undef, undef]) Tryz.func47 rfl rfl ?_
  refine AWp.seq ?_
  refine AWp.rowV (l := _) pok ?_
  refine sq.c (v := .bool false) rfl rfl rfl rfl ?_
  refine sq.e ?_
  refine AWp.seq ?_
  refine AWp.seq ?_
  refine AWp.rowV (l := _) pok ?_
  refine sq.c (v := .slice a (ls.length) cp) rfl rfl rfl rfl ?_
  refine sq.c (v := .int .i64 (ls.length)) rfl rfl (by kernel_rfl) rfl ?_
  refine sq.c (v := .slice a2 (ms.length) cp2) rfl rfl rfl rfl ?_
  refine sq.c (v := .int .i64 (ms.length)) rfl rfl (by kernel_rfl) rfl ?_
  refine sq.c (v := .bool (!decide (((ls.length : Nat) : Int) = ((ms.length : Nat) : Int)))) rfl rfl rfl rfl ?_
  refine sq.e ?_
  by_cases c1_4 : ((ls.length : Nat) : Int) = ((ms.length : Nat) : Int)
  · rw [decide_eq_true c1_4]
    refine AWp.condF rfl rfl ?_
    refine AWp.skip ?_
    refine AWp.seq ?_
    refine AWp.seq ?_
    refine AWp.rowV (l := _) pok ?_
    refine sq.c (v := .slice a (ls.length) cp) rfl rfl rfl rfl ?_
    refine sq.c (v := .int .i64 (ls.length)) rfl rfl (by kernel_rfl) rfl ?_
    refine sq.c (v := .int .i64 (0)) rfl rfl rfl rfl ?_
    refine sq.e ?_
    refine AWp.block ?_
    refine AWp.loopV (fun d vs h' n2 => ∃ (i : Int), d = ((ls.length : Nat) - i + 1).toNat ∧ h = h' ∧ n ≤ n2 ∧ Free h n2 ∧ (0 ≤ i) ∧ (i ≤ (ls.length : Nat)) ∧ (∀ j : Nat, (j : Int) < i → ls[j]? = ms[j]?) ∧ ∃ y1 : Nat → Value, vs = [.slice a (ls.length) cp, .slice a2 (ms.length) cp2, undef, undef, (y1 4), (y1 5), .slice a (ls.length) cp, .int .i64 (ls.length), .slice a2 (ms.length) cp2, .int .i64 (ms.length), .bool false, .slice a (ls.length) cp, .int .i64 (ls.length), .int .i64 (i), (y1 14), (y1 15), (y1 16), (y1 17), (y1 18), (y1 19), (y1 20), (y1 21), (y1 22), (y1 23), (y1 24), (y1 25)]) (((ls.length : Nat) - (0 : Int) + 1).toNat) ⟨0, rfl, rfl, hn, hf, (by omega), (by omega), (fun j hj => by omega), getV [undef, undef, undef, undef, .bool false, undef, undef, undef, undef, undef, undef, undef, undef, undef, undef, undef, undef, undef, undef, undef, undef, undef, undef, undef, undef, undef], rfl⟩ ?_
    rintro d vs h' n2 ⟨i, rfl, rfl, hn, hf, hi0, hi1, hyes, y1, rfl⟩
    refine AWp.seq ?_
    refine AWp.rowV (l := _) pok ?_
    refine sq.c (v := .bool (decide (i < ((ls.length : Nat) : Int)))) rfl rfl rfl rfl ?_
    refine sq.e ?_
    refine AWp.seq ?_
    by_cases c4_0 : i < ((ls.length : Nat) : Int)
    · rw [decide_eq_true c4_0]
      refine AWp.condT rfl rfl ?_
      refine AWp.skip ?_
      refine AWp.seq ?_
      refine AWp.block ?_
      refine AWp.seq ?_
      refine AWp.rowV (l := _) pok ?_
      refine sq.c (v := .int .i64 (i)) rfl rfl rfl rfl ?_
      refine sq.c (v := .int .i64 (i)) rfl rfl rfl rfl ?_
      refine sq.e ?_
      refine AWp.seq ?_
      refine AWp.anyV pok [] [0, 1, 2, 3, 4, 5, 6, 7, 8] (by kernel_rfl) (by kernel_rfl) rfl (fun x fr fr' h n hd _ q => ⟨hd ▸ q.1, q.2⟩) ?_
      refine dq.c (v := .slice a (ls.length) cp) rfl (by kernel_rfl) rfl rfl rfl rfl ?_
      refine dq.c (v := .int .i64 (i)) rfl (by kernel_rfl) rfl rfl rfl rfl ?_
      have i9 : (0 : Int) ≤ (i : Int) := by omega
      obtain ⟨x10, hx_x10⟩ : ∃ x, (ls)[((i : Int)).toNat]? = some x := ⟨_, List.getElem?_eq_getElem (by omega)⟩
      obtain ⟨b3, o4, cs_b3, ow_b3, ci_b3, ie8, hb5, hc6, hr7⟩ := IsRow.at (P := Tryz.prog) (t := 22) (e := 40) (k := .i64) (by kernel_rfl) (by kernel_rfl) (hl.keep hs) i9 hx_x10
      refine dq.c (v := .pointer (some ⟨b3, o4, none⟩)) rfl (by kernel_rfl) rfl rfl ie8 rfl ?_
      refine dq.g (v := .agg #[.string (x10.1), .string (x10.2)]) rfl (by kernel_rfl) rfl rfl (ldR (P := Tryz.prog) (t := 40) (k := 2) (xs := [.string (x10.1), .string (x10.2)]) (by kernel_rfl) (by kernel_rfl) hr7) rfl ?_
      refine dq.c (v := .slice a2 (ms.length) cp2) rfl (by kernel_rfl) rfl rfl rfl rfl ?_
      refine dq.c (v := .int .i64 (i)) rfl (by kernel_rfl) rfl rfl rfl rfl ?_
      have i17 : (0 : Int) ≤ (i : Int) := by omega
      obtain ⟨x18, hx_x18⟩ : ∃ x, (ms)[((i : Int)).toNat]? = some x := ⟨_, List.getElem?_eq_getElem (by omega)⟩
      obtain ⟨b11, o12, cs_b11, ow_b11, ci_b11, ie16, hb13, hc14, hr15⟩ := IsRow.at (P := Tryz.prog) (t := 22) (e := 40) (k := .i64) (by kernel_rfl) (by kernel_rfl) (hm.keep hs) i17 hx_x18
      refine dq.c (v := .pointer (some ⟨b11, o12, none⟩)) rfl (by kernel_rfl) rfl rfl ie16 rfl ?_
      refine dq.g (v := .agg #[.string (x18.1), .string (x18.2)]) rfl (by kernel_rfl) rfl rfl (ldR (P := Tryz.prog) (t := 40) (k := 2) (xs := [.string (x18.1), .string (x18.2)]) (by kernel_rfl) (by kernel_rfl) hr15) rfl ?_
      refine dq.c (v := .bool (!decide (x10 = x18))) rfl (by kernel_rfl) rfl rfl (labNe _ _) rfl ?_
      refine dq.e ?_
      by_cases c6_8 : x10 = x18
      · rw [decide_eq_true c6_8]
        refine AWp.condF rfl rfl ?_
        refine AWp.skip ?_
        refine AWp.rowV (l := _) pok ?_
        refine sq.c (v := .int .i64 (i + 1)) rfl rfl (okI (wrap_i64 (by omega) (by omega))) rfl ?_
        refine sq.c (v := .int .i64 (i + 1)) rfl rfl rfl rfl ?_
        refine sq.e ?_
        have hy : ∀ j : Nat, (j : Int) < i + 1 → ls[j]? = ms[j]? := by
          intro j hj
          by_cases e : j = i.toNat
          · rw [e, hx_x10, hx_x18, show x10 = x18 from c6_8]
          · exact hyes j (by omega)
        refine ⟨_, _, rfl, by omega, i + 1, rfl, rfl, hn, hf, (by omega), (by omega), (hy), getV [undef, undef, undef, undef, (y1 4), .int .i64 (i), undef, undef, undef, undef, undef, undef, undef, undef, .bool true, .int .i64 (i), .slice a (ls.length) cp, .int .i64 (i), .pointer (some ⟨b3, o4, none⟩), .agg #[.string (x10.1), .string (x10.2)], .slice a2 (ms.length) cp2, .int .i64 (i), .pointer (some ⟨b11, o12, none⟩), .agg #[.string (x18.1), .string (x18.2)], .bool false, .int .i64 (i + 1)], rfl⟩
      · rw [decide_eq_false c6_8]
        refine AWp.condT rfl rfl ?_
        refine AWp.seq ?_
        refine AWp.rowV (l := _) pok ?_
        refine sq.c (v := .bool false) rfl rfl rfl rfl ?_
        refine sq.e ?_
        refine AWp.ret ?_
        -- end 1: c1_4 L4 c4_0 ¬c6_8
        refine ⟨rfl, [.bool false], rfl, .bool false, rfl, hs, hn, ?_⟩
        show Value.bool false = .bool (decide (ls = ms))
        exact congrArg Value.bool (decide_eq_false (same_not hx_x10 hx_x18 (by exact c6_8))).symm
    · rw [decide_eq_false c4_0]
      refine AWp.condF rfl rfl ?_
      refine AWp.exit ?_
      refine AWp.seq ?_
      refine AWp.rowV (l := _) pok ?_
      refine sq.c (v := .bool true) rfl rfl rfl rfl ?_
      refine sq.e ?_
      refine AWp.ret ?_
      -- end 2: c1_4 L4 ¬c4_0
      refine ⟨rfl, [.bool true], rfl, .bool true, rfl, hs, hn, ?_⟩
      show Value.bool true = .bool (decide (ls = ms))
      exact congrArg Value.bool (decide_eq_true (same_all (Int.ofNat.inj c1_4) (fun j hj => hyes j (by omega)))).symm
  · rw [decide_eq_false c1_4]
    refine AWp.condT rfl rfl ?_
    refine AWp.seq ?_
    refine AWp.rowV (l := _) pok ?_
    refine sq.c (v := .bool false) rfl rfl rfl rfl ?_
    refine sq.e ?_
    refine AWp.ret ?_
    -- end 3: ¬c1_4
    refine ⟨rfl, [.bool false], rfl, .bool false, rfl, hs, hn, ?_⟩
    show Value.bool false = .bool (decide (ls = ms))
    exact congrArg Value.bool (decide_eq_false (fun e => c1_4 (by rw [e]))).symm

/-- baton/labels.Same -/
theorem f26_spec {h : Heap} {n : Nat} {a a2 : Option Addr} {cp cp2 : Nat} (ls ms : List Lab) (hl : IsRow encLab h (.slice a ls.length cp) ls) (hm : IsRow encLab h (.slice a2 ms.length cp2) ms) (hlen : ls.length < 9223372036854775808) :
    Tells Tryz.prog 26 [.slice a (ls.length) cp, .slice a2 (ms.length) cp2] h n (.bool (decide (ls = ms))) := by
  refine Makes.tells (Makes.free fun hf => ?_)
  have hs : SubBut h h [] := .refl _ _
  have hn : n ≤ n := Nat.le_refl _
  have hf0 := hf
  refine Makes.of_bodyV (args := [.slice a (ls.length) cp, .slice a2 (ms.length) cp2]) (vs := [.slice a (ls.length) cp, .slice a2 (ms.length) cp2, undef, undef, undef, undef, undef, undef]) Tryz.func26 rfl rfl ?_
  refine AWp.seq ?_
  refine AWp.rowV (l := _) pok ?_
  refine sq.c (v := .bool false) rfl rfl rfl rfl ?_
  refine sq.e ?_
  refine AWp.seq ?_
  refine AWp.rowV (l := _) pok ?_
  refine sq.c (v := .slice a (ls.length) cp) rfl rfl rfl rfl ?_
  refine sq.c (v := .slice a2 (ms.length) cp2) rfl rfl rfl rfl ?_
  refine sq.t (v := .bool (decide (ls = ms))) rfl (CallsF.fn rfl (by kernel_rfl) rfl rfl) (fun hf => f47_spec _ _ hl hm hlen) hf rfl ?_
  intro n1 hn2 hf
  have hn := Nat.le_trans hn hn2
  refine sq.c (v := .bool (decide (ls = ms))) rfl rfl rfl rfl ?_
  refine sq.e ?_
  refine AWp.ret ?_
  -- end 1: 
  refine ⟨rfl, [.bool (decide (ls = ms))], rfl, .bool (decide (ls = ms)), rfl, hs, hn, ?_⟩
  rfl

end Go.Proofs.YtkpjfibpaojelaaGreatDoor
