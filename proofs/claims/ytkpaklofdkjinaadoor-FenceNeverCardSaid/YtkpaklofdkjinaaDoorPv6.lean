/- texts of the claim, part 6: FenS5 FenS6 FenCmp FenShelf FenIter FenSort FenKeys FenT1 FenT2 FenT3 FenDJ. -/
import Derived.Test.YtkpaklofdkjinaaDoorPv5
import Derived.Shelf.SlSortCmp.WholeK
import Derived.Shelf.SlGeneric
import Derived.Lib.Walk
import Derived.WalkKit
import Derived.Laws.Cover1
import Derived.StillTailTactics
import Derived.Test.YtkpaklofdkjinaaDoorProg
import Derived.RangeFuncNested
import Derived.RangeFuncBox
import Derived.RangeFuncBound
import Derived.RangeFuncCalls
import Derived.RangeFuncLeaves
import Derived.Shelf.Abstract
import Derived.Shelf.RegionOpen
import Derived.OwnWalkIn
import Derived.TacticsInMore
import Derived.LoopNIn
import Derived.LoopIn
import Derived.Maps.AppendAt
import Derived.Laws.IdiomRangeMap
import Derived.Sort.MapsRangeIn
import Derived.Sort.KeysCollected
import Derived.RegionIn
import Derived.RangeFuncGives
import Derived.Shelf.SlSortCmp.NoneTotal
set_option linter.unusedVariables false
set_option linter.unusedSimpArgs false
set_option linter.unusedSectionVars false
namespace Go.Proofs.YtkpaklofdkjinaaDoor
open Go Go.Abs
set_option maxRecDepth 100000
set_option maxHeartbeats 4000000
theorem pair_ne {α β : Type} {a c : α} {b d : β} (h : ¬ a = c ∨ ¬ b = d) : ¬ (a, b) = (c, d) := fun e => by
  cases e
  rcases h with h | h <;> exact h rfl
theorem mayBat_spec {h : Heap} {n : Nat} {a : Option Addr} {cp : Nat} (ten clu : ByteArray) (epo : Int) (rs : List RSer) (ss : List Ser) (hr : IsRow encSer h (.slice a rs.length cp) rs) (hd : SersIs h rs ss) (hld : Laid0 h) (hsm : Smalls ss) (q1 : ten.data.toList.length < 9223372036854775808) (q2 : clu.data.toList.length < 9223372036854775808) :
    Tells Tryd.prog 29 [.agg #[.string (ten), .string (clu), .int .i64 (epo), .slice a (rs.length) cp]] h n (.bool (mayBat ⟨ten, clu, epo, ss⟩)) := by
 refine Makes.tells (Makes.free fun hf => ?_)
 have hs : SubBut h h ([]) := .refl _ _
 have hn : n ≤ n := Nat.le_refl _
 have hf0 := hf
 refine Makes.of_bodyV (args := [.agg #[.string (ten), .string (clu), .int .i64 (epo), .slice a (rs.length) cp]]) (vs := [.agg #[.string (ten), .string (clu), .int .i64 (epo), .slice a (rs.length) cp], undef, undef, undef, undef, undef, undef, undef, undef, undef, undef, undef, undef, undef, undef, undef, undef, undef, undef, undef, undef, undef, undef, undef, undef, undef, undef, undef, undef, undef, undef, undef, undef, undef, undef, undef, undef, undef, undef, undef, undef]) Tryd.func29 rfl rfl ?_
 refine AWp.seq (AWp.rowV (l := _) pok ?_)
 refine sq.op rfl rfl (Does.box (cs := [.string (ten), .string (clu), .int .i64 (epo), .slice a (rs.length) cp]) hf rfl rfl) ?_
 rintro _ h2 n3 ⟨rfl, hb1⟩ s4 hn2 hf
 refine sq.w ?_
 have hs := hs.trans s4
 have hn := Nat.le_trans hn hn2
 refine sq.c (v := .bool false) rfl rfl rfl rfl ?_
 refine sq.e ?_
 refine AWp.seqJ (fun vs h6 n7 => ∃ (ha : Bool), SubBut h h6 ([]) ∧ n ≤ n7 ∧ Free h6 n7 ∧ h6.get n = some (.cells [.string (ten), .string (clu), .int .i64 (epo), .slice a (rs.length) cp] true ⟨31, 0, true⟩) ∧ (ha = haB ⟨ten, clu, epo, ss⟩) ∧ ∃ y5 : Nat → Value, vs = [.agg #[.string (ten), .string (clu), .int .i64 (epo), .slice a (rs.length) cp], .pointer (some ⟨n, 0, none⟩), .bool false, .bool (ha), undef, (y5 5), (y5 6), (y5 7), (y5 8), (y5 9), (y5 10), (y5 11), (y5 12), (y5 13), (y5 14), (y5 15), (y5 16), (y5 17), undef, undef, undef, undef, undef, undef, undef, undef, undef, undef, undef, undef, undef, undef, undef, undef, undef, undef, undef, undef, undef, undef, undef]) ?_ ?_
 ·skip
  refine AWp.rowV (l := _) pok ?_
  refine sq.c (v := .pointer (some ⟨n, 1, none⟩)) rfl rfl (by kernel_rfl) rfl ?_
  refine sq.c (v := .string (clu)) rfl rfl (ld1 (P := Tryd.prog) (t := 9) (p := 1) (v := .string (clu)) (by kernel_rfl) (by kernel_rfl) hb1 rfl) rfl ?_
  refine sq.t (v := .bool (nameB clu)) rfl (CallsF.fn rfl (by kernel_rfl) rfl rfl) (fun hf => name_spec _ q2) hf rfl ?_
  intro n8 hn2 hf
  have hn := Nat.le_trans hn hn2
  refine sq.c (v := .bool (nameB clu)) rfl rfl rfl rfl ?_
  rcases Bool.eq_false_or_eq_true (nameB clu) with c1_2 | c1_2
  ·rw [c1_2]
   refine sq.c (v := .pointer (some ⟨n, 2, none⟩)) (wantT (g := 3) (d := 8) rfl rfl rfl) rfl (by kernel_rfl) rfl ?_
   refine sq.c (v := .int .i64 (epo)) (wantT (g := 3) (d := 8) rfl rfl rfl) rfl (ld1 (P := Tryd.prog) (t := 2) (p := 2) (v := .int .i64 (epo)) (by kernel_rfl) (by kernel_rfl) hb1 rfl) rfl ?_
   refine sq.c (v := .bool (decide ((1 : Int) ≤ epo))) (wantT (g := 3) (d := 8) rfl rfl rfl) rfl rfl rfl ?_
   refine sq.c (v := .bool (decide ((1 : Int) ≤ epo))) rfl rfl rfl rfl ?_
   refine sq.c (v := .bool (decide ((1 : Int) ≤ epo))) rfl rfl rfl rfl ?_
   by_cases c1_6 : (1 : Int) ≤ epo
   ·rw [decide_eq_true c1_6]
    refine sq.c (v := .pointer (some ⟨n, 2, none⟩)) (wantT (g := 8) (d := 13) rfl rfl rfl) rfl (by kernel_rfl) rfl ?_
    refine sq.c (v := .int .i64 (epo)) (wantT (g := 8) (d := 13) rfl rfl rfl) rfl (ld1 (P := Tryd.prog) (t := 2) (p := 2) (v := .int .i64 (epo)) (by kernel_rfl) (by kernel_rfl) hb1 rfl) rfl ?_
    refine sq.c (v := .bool (decide (epo ≤ (1099511627776 : Int)))) (wantT (g := 8) (d := 13) rfl rfl rfl) rfl rfl rfl ?_
    refine sq.c (v := .bool (decide (epo ≤ (1099511627776 : Int)))) rfl rfl rfl rfl ?_
    refine sq.c (v := .bool (decide (epo ≤ (1099511627776 : Int)))) rfl rfl rfl rfl ?_
    refine sq.e ?_
    refine ⟨_, rfl, (decide (epo ≤ (1099511627776 : Int))), hs, hn, hf, hb1, (by unfold haB; simp [c1_2, c1_6]), getV [undef, undef, undef, undef, undef, .pointer (some ⟨n, 1, none⟩), .string (clu), .bool true, .bool true, .pointer (some ⟨n, 2, none⟩), .int .i64 (epo), .bool true, .bool true, .bool true, .pointer (some ⟨n, 2, none⟩), .int .i64 (epo), .bool (decide (epo ≤ (1099511627776 : Int))), .bool (decide (epo ≤ (1099511627776 : Int)))], rfl⟩
   ·rw [decide_eq_false c1_6]
    refine sq.s (wantF (g := 8) (d := 13) rfl rfl rfl) rfl ?_
    refine sq.s (wantF (g := 8) (d := 13) rfl rfl rfl) rfl ?_
    refine sq.s (wantF (g := 8) (d := 13) rfl rfl rfl) rfl ?_
    refine sq.c (v := .bool false) rfl rfl rfl rfl ?_
    refine sq.c (v := .bool false) rfl rfl rfl rfl ?_
    refine sq.e ?_
    refine ⟨_, rfl, false, hs, hn, hf, hb1, (by unfold haB; simp [c1_2, c1_6]), getV [undef, undef, undef, undef, undef, .pointer (some ⟨n, 1, none⟩), .string (clu), .bool true, .bool true, .pointer (some ⟨n, 2, none⟩), .int .i64 (epo), .bool false, .bool false, .bool false, undef, undef, undef, .bool false], rfl⟩
  ·rw [c1_2]
   refine sq.s (wantF (g := 3) (d := 8) rfl rfl rfl) rfl ?_
   refine sq.s (wantF (g := 3) (d := 8) rfl rfl rfl) rfl ?_
   refine sq.s (wantF (g := 3) (d := 8) rfl rfl rfl) rfl ?_
   refine sq.c (v := .bool false) rfl rfl rfl rfl ?_
   refine sq.c (v := .bool false) rfl rfl rfl rfl ?_
   refine sq.s (wantF (g := 8) (d := 13) rfl rfl rfl) rfl ?_
   refine sq.s (wantF (g := 8) (d := 13) rfl rfl rfl) rfl ?_
   refine sq.s (wantF (g := 8) (d := 13) rfl rfl rfl) rfl ?_
   refine sq.c (v := .bool false) rfl rfl rfl rfl ?_
   refine sq.c (v := .bool false) rfl rfl rfl rfl ?_
   refine sq.e ?_
   refine ⟨_, rfl, false, hs, hn, hf, hb1, (by unfold haB; simp [c1_2]), getV [undef, undef, undef, undef, undef, .pointer (some ⟨n, 1, none⟩), .string (clu), .bool false, .bool false, undef, undef, undef, .bool false, .bool false, undef, undef, undef, .bool false], rfl⟩
 ·skip
  rintro vs h6 n7 ⟨ha, hs, hn, hf, hb1, hha, y5, rfl⟩
  refine AWp.seq (AWp.seq (AWp.rowV (l := _) pok ?_))
  refine sq.c (v := .pointer (some ⟨n, 0, none⟩)) rfl rfl (by kernel_rfl) rfl ?_
  refine sq.c (v := .string (ten)) rfl rfl (ld1 (P := Tryd.prog) (t := 9) (p := 0) (v := .string (ten)) (by kernel_rfl) (by kernel_rfl) hb1 rfl) rfl ?_
  refine sq.t (v := .bool (nameB ten)) rfl (CallsF.fn rfl (by kernel_rfl) rfl rfl) (fun hf => name_spec _ q1) hf rfl ?_
  intro n9 hn2 hf
  have hn := Nat.le_trans hn hn2
  rcases Bool.eq_false_or_eq_true (nameB ten) with c2_2 | c2_2
  ·rw [c2_2]
   refine sq.c (v := .bool false) rfl rfl rfl rfl ?_
   refine sq.c (v := .bool false) rfl rfl rfl rfl ?_
   refine sq.c (v := .bool (ha)) (wantT (g := 4) (d := 22) rfl rfl rfl) rfl rfl rfl ?_
   rcases Bool.eq_false_or_eq_true (ha) with c2_h | c2_h
   ·rw [c2_h]
    refine sq.c (v := .bool false) (wantT (g := 4) (d := 22) rfl rfl rfl) rfl rfl rfl ?_
    refine sq.c (v := .bool false) (wantT (g := 4) (d := 22) rfl rfl rfl) rfl rfl rfl ?_
    refine sq.s (wantF (g := 7) (d := 25) rfl rfl rfl) rfl ?_
    refine sq.s (wantF (g := 7) (d := 25) rfl rfl rfl) rfl ?_
    refine sq.s (wantF (g := 7) (d := 25) rfl rfl rfl) rfl ?_
    refine sq.s (wantF (g := 7) (d := 25) rfl rfl rfl) rfl ?_
    refine sq.s (wantU (g := 11) (d := 29) rfl rfl rfl) rfl ?_
    refine sq.s (wantU (g := 11) (d := 29) rfl rfl rfl) rfl ?_
    refine sq.s (wantU (g := 11) (d := 29) rfl rfl rfl) rfl ?_
    refine sq.s (wantF (g := 7) (d := 25) rfl rfl rfl) rfl ?_
    refine sq.c (v := .bool false) (wantT (g := 4) (d := 22) rfl rfl rfl) rfl rfl rfl ?_
    refine sq.c (v := .bool false) rfl rfl rfl rfl ?_
    refine sq.e ?_
    refine AWp.condF rfl rfl ?_
    refine AWp.skip (AWp.seq (AWp.rowV (l := _) pok ?_))
    have e_n_n9 : n ≠ n9 := hf.ne hb1
    have z_n9 : h.get n9 = none := hf0 _ hn
    refine sq.op rfl rfl (Does.alloc (cs := [.nilFunc]) hf (z := .nilFunc) (by kernel_rfl) rfl) ?_
    rintro _ h11 n12 ⟨rfl, hb10⟩ s13 hn2 hf
    refine sq.w ?_
    have hb1 := s13.sub _ _ hb1
    have hs := hs.trans s13
    have hn := Nat.le_trans hn hn2
    refine sq.op rfl rfl (Does.store (k := 1) (xs := [.func (.func 51) #[] #[]]) (cs' := [.func (.func 51) #[] #[]]) hf (by kernel_rfl) rfl rfl rfl hb10 rfl rfl (Nat.le_of_ble_eq_true rfl) rfl) ?_
    rintro _ h15 n16 ⟨rfl, hb14⟩ s17 hn2 hf
    refine sq.w0 ?_
    have hb1 := s17.get1 (e_n_n9) hb1
    have hs := hs.fresh z_n9 s17
    have hn := Nat.le_trans hn hn2
    refine sq.e (AWp.seq (AWp.rowV (l := _) pok ?_))
    refine sq.c (v := .pointer (some ⟨n, 3, none⟩)) rfl rfl (by kernel_rfl) rfl ?_
    refine sq.c (v := .slice a (rs.length) cp) rfl rfl (ld1 (P := Tryd.prog) (t := 29) (p := 3) (v := .slice a (rs.length) cp) (by kernel_rfl) (by kernel_rfl) hb1 rfl) rfl ?_
    refine sq.c (v := .func (.func 53) #[] #[.pointer (some ⟨n9, 0, none⟩)]) rfl rfl rfl rfl ?_
    refine sq.t (v := .bool (!ss.all okSer)) rfl (CallsF.fn rfl (by kernel_rfl) rfl rfl) (fun hf => cont2_spec _ _ (hr.keep hs) (hd.keep hs) (hld.keep hs) hsm hb14) hf rfl ?_
    intro n18 hn2 hf
    have hn := Nat.le_trans hn hn2
    rcases Bool.eq_false_or_eq_true (!ss.all okSer) with c5_3 | c5_3
    ·rw [c5_3]
     refine sq.c (v := .bool false) rfl rfl rfl rfl ?_
     refine sq.c (v := .bool false) rfl rfl rfl rfl ?_
     refine sq.e ?_
     refine AWp.ret ?_
     refine ⟨rfl, [.bool false], rfl, .bool false, rfl, hs, hn, ?_⟩
     show Value.bool false = .bool (mayBat ⟨ten, clu, epo, ss⟩)
     refine congrArg Value.bool ?_
     have c5 : ss.all okSer = false := by cases hz : ss.all okSer <;> rw [hz] at c5_3 <;> first | rfl | cases c5_3
     unfold mayBat
     rw [← hha]
     dsimp only
     rw [c5]
     simp [c2_2, c2_h]
    ·rw [c5_3]
     refine sq.c (v := .bool true) rfl rfl rfl rfl ?_
     refine sq.c (v := .bool true) rfl rfl rfl rfl ?_
     refine sq.e ?_
     refine AWp.ret ?_
     refine ⟨rfl, [.bool true], rfl, .bool true, rfl, hs, hn, ?_⟩
     show Value.bool true = .bool (mayBat ⟨ten, clu, epo, ss⟩)
     refine congrArg Value.bool ?_
     have c5 : ss.all okSer = true := by cases hz : ss.all okSer <;> rw [hz] at c5_3 <;> first | rfl | cases c5_3
     unfold mayBat
     rw [← hha]
     dsimp only
     rw [c5]
     simp [c2_2, c2_h]
   ·rw [c2_h]
    refine sq.c (v := .bool true) rfl rfl rfl rfl ?_
    refine sq.c (v := .bool true) (wantT (g := 4) (d := 22) rfl rfl rfl) rfl rfl rfl ?_
    refine sq.c (v := .pointer (some ⟨n, 1, none⟩)) (wantT (g := 7) (d := 25) rfl rfl rfl) rfl (by kernel_rfl) rfl ?_
    refine sq.c (v := .string (clu)) (wantT (g := 7) (d := 25) rfl rfl rfl) rfl (ld1 (P := Tryd.prog) (t := 9) (p := 1) (v := .string (clu)) (by kernel_rfl) (by kernel_rfl) hb1 rfl) rfl ?_
    refine sq.c (v := .bool (!decide (clu = (⟨#[]⟩ : ByteArray)))) (wantT (g := 7) (d := 25) rfl rfl rfl) rfl (neD _ _) rfl ?_
    refine sq.c (v := .bool (!decide (clu = (⟨#[]⟩ : ByteArray)))) (wantT (g := 7) (d := 25) rfl rfl rfl) rfl rfl rfl ?_
    by_cases c2_10 : clu = (⟨#[]⟩ : ByteArray)
    ·rw [decide_eq_true c2_10]
     refine sq.c (v := .pointer (some ⟨n, 2, none⟩)) (wantT (g := 11) (d := 29) rfl rfl rfl) rfl (by kernel_rfl) rfl ?_
     refine sq.c (v := .int .i64 (epo)) (wantT (g := 11) (d := 29) rfl rfl rfl) rfl (ld1 (P := Tryd.prog) (t := 2) (p := 2) (v := .int .i64 (epo)) (by kernel_rfl) (by kernel_rfl) hb1 rfl) rfl ?_
     refine sq.c (v := .bool (!decide (epo = (0 : Int)))) (wantT (g := 11) (d := 29) rfl rfl rfl) rfl rfl rfl ?_
     refine sq.c (v := .bool (!decide (epo = (0 : Int)))) (wantT (g := 7) (d := 25) rfl rfl rfl) rfl rfl rfl ?_
     refine sq.c (v := .bool (!decide (epo = (0 : Int)))) (wantT (g := 4) (d := 22) rfl rfl rfl) rfl rfl rfl ?_
     refine sq.c (v := .bool (!decide (epo = (0 : Int)))) rfl rfl rfl rfl ?_
     refine sq.e ?_
     by_cases c2_14 : epo = (0 : Int)
     ·rw [decide_eq_true c2_14]
      refine AWp.condF rfl rfl ?_
      refine AWp.skip (AWp.seq (AWp.rowV (l := _) pok ?_))
      have e_n_n9 : n ≠ n9 := hf.ne hb1
      have z_n9 : h.get n9 = none := hf0 _ hn
      refine sq.op rfl rfl (Does.alloc (cs := [.nilFunc]) hf (z := .nilFunc) (by kernel_rfl) rfl) ?_
      rintro _ h20 n21 ⟨rfl, hb19⟩ s22 hn2 hf
      refine sq.w ?_
      have hb1 := s22.sub _ _ hb1
      have hs := hs.trans s22
      have hn := Nat.le_trans hn hn2
      refine sq.op rfl rfl (Does.store (k := 1) (xs := [.func (.func 51) #[] #[]]) (cs' := [.func (.func 51) #[] #[]]) hf (by kernel_rfl) rfl rfl rfl hb19 rfl rfl (Nat.le_of_ble_eq_true rfl) rfl) ?_
      rintro _ h24 n25 ⟨rfl, hb23⟩ s26 hn2 hf
      refine sq.w0 ?_
      have hb1 := s26.get1 (e_n_n9) hb1
      have hs := hs.fresh z_n9 s26
      have hn := Nat.le_trans hn hn2
      refine sq.e (AWp.seq (AWp.rowV (l := _) pok ?_))
      refine sq.c (v := .pointer (some ⟨n, 3, none⟩)) rfl rfl (by kernel_rfl) rfl ?_
      refine sq.c (v := .slice a (rs.length) cp) rfl rfl (ld1 (P := Tryd.prog) (t := 29) (p := 3) (v := .slice a (rs.length) cp) (by kernel_rfl) (by kernel_rfl) hb1 rfl) rfl ?_
      refine sq.c (v := .func (.func 53) #[] #[.pointer (some ⟨n9, 0, none⟩)]) rfl rfl rfl rfl ?_
      refine sq.t (v := .bool (!ss.all okSer)) rfl (CallsF.fn rfl (by kernel_rfl) rfl rfl) (fun hf => cont2_spec _ _ (hr.keep hs) (hd.keep hs) (hld.keep hs) hsm hb23) hf rfl ?_
      intro n27 hn2 hf
      have hn := Nat.le_trans hn hn2
      rcases Bool.eq_false_or_eq_true (!ss.all okSer) with c5_3 | c5_3
      ·rw [c5_3]
       refine sq.c (v := .bool false) rfl rfl rfl rfl ?_
       refine sq.c (v := .bool false) rfl rfl rfl rfl ?_
       refine sq.e ?_
       refine AWp.ret ?_
       refine ⟨rfl, [.bool false], rfl, .bool false, rfl, hs, hn, ?_⟩
       show Value.bool false = .bool (mayBat ⟨ten, clu, epo, ss⟩)
       refine congrArg Value.bool ?_
       have c5 : ss.all okSer = false := by cases hz : ss.all okSer <;> rw [hz] at c5_3 <;> first | rfl | cases c5_3
       unfold mayBat
       rw [← hha]
       dsimp only
       rw [c5]
       simp [c2_2, c2_h, c2_10, c2_14]
      ·rw [c5_3]
       refine sq.c (v := .bool true) rfl rfl rfl rfl ?_
       refine sq.c (v := .bool true) rfl rfl rfl rfl ?_
       refine sq.e ?_
       refine AWp.ret ?_
       refine ⟨rfl, [.bool true], rfl, .bool true, rfl, hs, hn, ?_⟩
       show Value.bool true = .bool (mayBat ⟨ten, clu, epo, ss⟩)
       refine congrArg Value.bool ?_
       have c5 : ss.all okSer = true := by cases hz : ss.all okSer <;> rw [hz] at c5_3 <;> first | rfl | cases c5_3
       unfold mayBat
       rw [← hha]
       dsimp only
       rw [c5]
       simp [c2_2, c2_h, c2_10, c2_14]
     ·rw [decide_eq_false c2_14]
      refine AWp.condT rfl rfl ?_
      refine AWp.seq (AWp.rowV (l := _) pok ?_)
      refine sq.c (v := .bool false) rfl rfl rfl rfl ?_
      refine sq.e ?_
      refine AWp.ret ?_
      refine ⟨rfl, [.bool false], rfl, .bool false, rfl, hs, hn, ?_⟩
      show Value.bool false = .bool (mayBat ⟨ten, clu, epo, ss⟩)
      refine congrArg Value.bool ?_
      unfold mayBat
      rw [← hha]
      dsimp only
      simp [c2_2, c2_h, c2_10, c2_14]
    ·rw [decide_eq_false c2_10]
     refine sq.s (wantF (g := 11) (d := 29) rfl rfl rfl) rfl ?_
     refine sq.s (wantF (g := 11) (d := 29) rfl rfl rfl) rfl ?_
     refine sq.s (wantF (g := 11) (d := 29) rfl rfl rfl) rfl ?_
     refine sq.c (v := .bool true) (wantT (g := 7) (d := 25) rfl rfl rfl) rfl rfl rfl ?_
     refine sq.c (v := .bool true) (wantT (g := 4) (d := 22) rfl rfl rfl) rfl rfl rfl ?_
     refine sq.c (v := .bool true) rfl rfl rfl rfl ?_
     refine sq.e ?_
     refine AWp.condT rfl rfl ?_
     refine AWp.seq (AWp.rowV (l := _) pok ?_)
     refine sq.c (v := .bool false) rfl rfl rfl rfl ?_
     refine sq.e ?_
     refine AWp.ret ?_
     refine ⟨rfl, [.bool false], rfl, .bool false, rfl, hs, hn, ?_⟩
     show Value.bool false = .bool (mayBat ⟨ten, clu, epo, ss⟩)
     refine congrArg Value.bool ?_
     unfold mayBat
     rw [← hha]
     dsimp only
     simp [c2_2, c2_h, c2_10]
  ·rw [c2_2]
   refine sq.c (v := .bool true) rfl rfl rfl rfl ?_
   refine sq.c (v := .bool true) rfl rfl rfl rfl ?_
   refine sq.s (wantF (g := 4) (d := 22) rfl rfl rfl) rfl ?_
   refine sq.s (wantF (g := 4) (d := 22) rfl rfl rfl) rfl ?_
   refine sq.s (wantF (g := 4) (d := 22) rfl rfl rfl) rfl ?_
   refine sq.s (wantU (g := 7) (d := 25) rfl rfl rfl) rfl ?_
   refine sq.s (wantU (g := 7) (d := 25) rfl rfl rfl) rfl ?_
   refine sq.s (wantU (g := 7) (d := 25) rfl rfl rfl) rfl ?_
   refine sq.s (wantU (g := 7) (d := 25) rfl rfl rfl) rfl ?_
   refine sq.s (wantU (g := 11) (d := 29) rfl rfl rfl) rfl ?_
   refine sq.s (wantU (g := 11) (d := 29) rfl rfl rfl) rfl ?_
   refine sq.s (wantU (g := 11) (d := 29) rfl rfl rfl) rfl ?_
   refine sq.s (wantU (g := 7) (d := 25) rfl rfl rfl) rfl ?_
   refine sq.s (wantF (g := 4) (d := 22) rfl rfl rfl) rfl ?_
   refine sq.c (v := .bool true) rfl rfl rfl rfl ?_
   refine sq.e ?_
   refine AWp.condT rfl rfl ?_
   refine AWp.seq (AWp.rowV (l := _) pok ?_)
   refine sq.c (v := .bool false) rfl rfl rfl rfl ?_
   refine sq.e ?_
   refine AWp.ret ?_
   refine ⟨rfl, [.bool false], rfl, .bool false, rfl, hs, hn, ?_⟩
   show Value.bool false = .bool (mayBat ⟨ten, clu, epo, ss⟩)
   refine congrArg Value.bool ?_
   unfold mayBat
   rw [← hha]
   dsimp only
   simp [c2_2]
theorem alike_spec {h : Heap} {n : Nat} {a1 a2 a3 a4 : Option Addr} {p1 p2 p3 p4 : Nat} (ls ms : List Lab) (xs ys : List Samp) (hl : IsRow encLab h (.slice a1 ls.length p1) ls) (hx : IsRow encSmp h (.slice a2 xs.length p2) xs) (hm : IsRow encLab h (.slice a3 ms.length p3) ms) (hy : IsRow encSmp h (.slice a4 ys.length p4) ys) (q1 : ls.length < 1000000000000) (q2 : xs.length < 1000000000000) :
    Tells Tryd.prog 58 [.agg #[.slice a1 (ls.length) p1, .slice a2 (xs.length) p2], .agg #[.slice a3 (ms.length) p3, .slice a4 (ys.length) p4]] h n (.bool (decide ((ls, xs) = (ms, ys)))) := by
 refine Makes.tells (Makes.free fun hf => ?_)
 have hs : SubBut h h ([]) := .refl _ _
 have hn : n ≤ n := Nat.le_refl _
 have hf0 := hf
 refine Makes.of_bodyV (args := [.agg #[.slice a1 (ls.length) p1, .slice a2 (xs.length) p2], .agg #[.slice a3 (ms.length) p3, .slice a4 (ys.length) p4]]) (vs := [.agg #[.slice a1 (ls.length) p1, .slice a2 (xs.length) p2], .agg #[.slice a3 (ms.length) p3, .slice a4 (ys.length) p4], undef, undef, undef, undef, undef, undef, undef, undef, undef, undef, undef, undef, undef, undef, undef, undef, undef, undef, undef, undef, undef, undef, undef, undef, undef, undef, undef, undef, undef, undef, undef, undef, undef, undef, undef, undef, undef, undef, undef, undef, undef, undef, undef, undef, undef, undef, undef, undef, undef, undef, undef, undef, undef, undef, undef, undef, undef]) Tryd.func58 rfl rfl ?_
 refine AWp.seq (AWp.rowV (l := _) pok ?_)
 refine sq.op rfl rfl (Does.box (cs := [.slice a1 (ls.length) p1, .slice a2 (xs.length) p2]) hf rfl rfl) ?_
 rintro _ h2 n3 ⟨rfl, hb1⟩ s4 hn2 hf
 refine sq.w ?_
 have hs := hs.trans s4
 have hn := Nat.le_trans hn hn2
 refine sq.op rfl rfl (Does.box (cs := [.slice a3 (ms.length) p3, .slice a4 (ys.length) p4]) hf rfl rfl) ?_
 rintro _ h6 n7 ⟨rfl, hb5⟩ s8 hn2 hf
 refine sq.w ?_
 have hb1 := s8.sub _ _ hb1
 have hs := hs.trans s8
 have hn := Nat.le_trans hn hn2
 refine sq.c (v := .bool false) rfl rfl rfl rfl ?_
 refine sq.e (AWp.seq (AWp.seq (AWp.rowV (l := _) pok ?_)))
 refine sq.c (v := .pointer (some ⟨n, 0, none⟩)) rfl rfl (by kernel_rfl) rfl ?_
 refine sq.c (v := .slice a1 (ls.length) p1) rfl rfl (ld1 (P := Tryd.prog) (t := 40) (p := 0) (v := .slice a1 (ls.length) p1) (by kernel_rfl) (by kernel_rfl) hb1 rfl) rfl ?_
 refine sq.c (v := .int .i64 (((ls.length : Nat) : Int))) rfl rfl (by kernel_rfl) rfl ?_
 refine sq.c (v := .pointer (some ⟨n3, 0, none⟩)) rfl rfl (by kernel_rfl) rfl ?_
 refine sq.c (v := .slice a3 (ms.length) p3) rfl rfl (ld1 (P := Tryd.prog) (t := 40) (p := 0) (v := .slice a3 (ms.length) p3) (by kernel_rfl) (by kernel_rfl) hb5 rfl) rfl ?_
 refine sq.c (v := .int .i64 (((ms.length : Nat) : Int))) rfl rfl (by kernel_rfl) rfl ?_
 refine sq.c (v := .bool (!decide ((((ls.length : Nat) : Int)) = (((ms.length : Nat) : Int))))) rfl rfl rfl rfl ?_
 refine sq.c (v := .bool (!decide ((((ls.length : Nat) : Int)) = (((ms.length : Nat) : Int))))) rfl rfl rfl rfl ?_
 by_cases c1_6 : (((ls.length : Nat) : Int)) = (((ms.length : Nat) : Int))
 ·rw [decide_eq_true c1_6]
  refine sq.c (v := .pointer (some ⟨n, 1, none⟩)) (wantT (g := 7) (d := 14) rfl rfl rfl) rfl (by kernel_rfl) rfl ?_
  refine sq.c (v := .slice a2 (xs.length) p2) (wantT (g := 7) (d := 14) rfl rfl rfl) rfl (ld1 (P := Tryd.prog) (t := 41) (p := 1) (v := .slice a2 (xs.length) p2) (by kernel_rfl) (by kernel_rfl) hb1 rfl) rfl ?_
  refine sq.c (v := .int .i64 (((xs.length : Nat) : Int))) (wantT (g := 7) (d := 14) rfl rfl rfl) rfl (by kernel_rfl) rfl ?_
  refine sq.c (v := .pointer (some ⟨n3, 1, none⟩)) (wantT (g := 7) (d := 14) rfl rfl rfl) rfl (by kernel_rfl) rfl ?_
  refine sq.c (v := .slice a4 (ys.length) p4) (wantT (g := 7) (d := 14) rfl rfl rfl) rfl (ld1 (P := Tryd.prog) (t := 41) (p := 1) (v := .slice a4 (ys.length) p4) (by kernel_rfl) (by kernel_rfl) hb5 rfl) rfl ?_
  refine sq.c (v := .int .i64 (((ys.length : Nat) : Int))) (wantT (g := 7) (d := 14) rfl rfl rfl) rfl (by kernel_rfl) rfl ?_
  refine sq.c (v := .bool (!decide ((((xs.length : Nat) : Int)) = (((ys.length : Nat) : Int))))) (wantT (g := 7) (d := 14) rfl rfl rfl) rfl rfl rfl ?_
  refine sq.c (v := .bool (!decide ((((xs.length : Nat) : Int)) = (((ys.length : Nat) : Int))))) rfl rfl rfl rfl ?_
  refine sq.e ?_
  by_cases c1_14 : (((xs.length : Nat) : Int)) = (((ys.length : Nat) : Int))
  ·rw [decide_eq_true c1_14]
   refine AWp.condF rfl rfl ?_
   refine AWp.skip (AWp.seq (AWp.seq (AWp.rowV (l := _) pok ?_)))
   refine sq.c (v := .int .i64 (0)) rfl rfl rfl rfl ?_
   refine sq.e (AWp.block ?_)
   refine AWp.loopV (fun d vs h10 n11 => ∃ (i : Int), d = ((ls.length : Nat) - i + 1).toNat ∧ SubBut h h10 ([]) ∧ n ≤ n11 ∧ Free h10 n11 ∧ h10.get n = some (.cells [.slice a1 (ls.length) p1, .slice a2 (xs.length) p2] true ⟨43, 0, true⟩) ∧ h10.get n3 = some (.cells [.slice a3 (ms.length) p3, .slice a4 (ys.length) p4] true ⟨43, 0, true⟩) ∧ (0 ≤ i) ∧ (i ≤ (ls.length : Nat)) ∧ (∀ k : Nat, (k : Int) < i → ls[k]? = ms[k]?) ∧ ∃ y9 : Nat → Value, vs = [.agg #[.slice a1 (ls.length) p1, .slice a2 (xs.length) p2], .agg #[.slice a3 (ms.length) p3, .slice a4 (ys.length) p4], .pointer (some ⟨n, 0, none⟩), .pointer (some ⟨n3, 0, none⟩), (y9 4), .int .i64 (i), undef, .pointer (some ⟨n, 0, none⟩), .slice a1 (ls.length) p1, .int .i64 (((ls.length : Nat) : Int)), .pointer (some ⟨n3, 0, none⟩), .slice a3 (ms.length) p3, .int .i64 (((ms.length : Nat) : Int)), .bool false, .bool false, .pointer (some ⟨n, 1, none⟩), .slice a2 (xs.length) p2, .int .i64 (((xs.length : Nat) : Int)), .pointer (some ⟨n3, 1, none⟩), .slice a4 (ys.length) p4, .int .i64 (((ys.length : Nat) : Int)), .bool false, .bool false, (y9 23), (y9 24), (y9 25), (y9 26), (y9 27), (y9 28), (y9 29), (y9 30), (y9 31), (y9 32), (y9 33), (y9 34), (y9 35), (y9 36), (y9 37), (y9 38), (y9 39), (y9 40), undef, undef, undef, undef, undef, undef, undef, undef, undef, undef, undef, undef, undef, undef, undef, undef, undef, undef]) (((ls.length : Nat) - (0 : Int) + 1).toNat) ⟨0, rfl, hs, hn, hf, hb1, hb5, (by omega), (by omega), (fun j hj => by omega), getV [undef, undef, undef, undef, .bool false, undef, undef, undef, undef, undef, undef, undef, undef, undef, undef, undef, undef, undef, undef, undef, undef, undef, undef, undef, undef, undef, undef, undef, undef, undef, undef, undef, undef, undef, undef, undef, undef, undef, undef, undef, undef], rfl⟩ ?_
   rintro d vs h10 n11 ⟨i, rfl, hs, hn, hf, hb1, hb5, hi0, hi1, hyes, y9, rfl⟩
   refine AWp.seq (AWp.seq (AWp.rowV (l := _) pok ?_))
   refine sq.c (v := .int .i64 (i)) rfl rfl rfl rfl ?_
   refine sq.c (v := .pointer (some ⟨n, 0, none⟩)) rfl rfl (by kernel_rfl) rfl ?_
   refine sq.c (v := .slice a1 (ls.length) p1) rfl rfl (ld1 (P := Tryd.prog) (t := 40) (p := 0) (v := .slice a1 (ls.length) p1) (by kernel_rfl) (by kernel_rfl) hb1 rfl) rfl ?_
   refine sq.c (v := .int .i64 (((ls.length : Nat) : Int))) rfl rfl (by kernel_rfl) rfl ?_
   refine sq.c (v := .bool (decide (i < (((ls.length : Nat) : Int))))) rfl rfl rfl rfl ?_
   refine sq.e ?_
   by_cases c4_4 : i < (((ls.length : Nat) : Int))
   ·rw [decide_eq_true c4_4]
    refine AWp.condT rfl rfl ?_
    refine AWp.skip (AWp.seq (AWp.block (AWp.seq ?_)))
    refine AWp.anyV pok [] [0, 1, 2, 3, 4, 5, 6, 7, 8, 9, 10] (by kernel_rfl) (by kernel_rfl) rfl (fun x fr fr' h n hd _ q => ⟨hd ▸ q.1, q.2⟩) ?_
    refine dq.c (v := .pointer (some ⟨n, 0, none⟩)) rfl (by kernel_rfl) rfl rfl (by kernel_rfl) rfl ?_
    refine dq.g (v := .slice a1 (ls.length) p1) rfl (by kernel_rfl) rfl rfl (ld1 (P := Tryd.prog) (t := 40) (p := 0) (v := .slice a1 (ls.length) p1) (by kernel_rfl) (by kernel_rfl) hb1 rfl) rfl ?_
    refine dq.c (v := .int .i64 (i)) rfl (by kernel_rfl) rfl rfl rfl rfl ?_
    have i18 : (0 : Int) ≤ (i : Int) := by omega
    obtain ⟨x19, hx_x19⟩ : ∃ x, (ls)[((i : Int)).toNat]? = some x := ⟨_, List.getElem?_eq_getElem (by omega)⟩
    obtain ⟨b12, o13, cs_b12, ow_b12, ci_b12, ie17, hb14, hc15, hr16⟩ := IsRow.at (P := Tryd.prog) (t := 40) (e := 61) (k := .i64) (by kernel_rfl) (by kernel_rfl) (hl.keep hs) i18 hx_x19
    refine dq.c (v := .pointer (some ⟨b12, o13, none⟩)) rfl (by kernel_rfl) rfl rfl ie17 rfl ?_
    refine dq.g (v := .agg #[.string (x19.1), .string (x19.2)]) rfl (by kernel_rfl) rfl rfl (ldR (P := Tryd.prog) (t := 61) (k := 2) (xs := [.string (x19.1), .string (x19.2)]) (by kernel_rfl) (by kernel_rfl) hr16) rfl ?_
    refine dq.c (v := .pointer (some ⟨n3, 0, none⟩)) rfl (by kernel_rfl) rfl rfl (by kernel_rfl) rfl ?_
    refine dq.g (v := .slice a3 (ms.length) p3) rfl (by kernel_rfl) rfl rfl (ld1 (P := Tryd.prog) (t := 40) (p := 0) (v := .slice a3 (ms.length) p3) (by kernel_rfl) (by kernel_rfl) hb5 rfl) rfl ?_
    refine dq.c (v := .int .i64 (i)) rfl (by kernel_rfl) rfl rfl rfl rfl ?_
    have i26 : (0 : Int) ≤ (i : Int) := by omega
    obtain ⟨x27, hx_x27⟩ : ∃ x, (ms)[((i : Int)).toNat]? = some x := ⟨_, List.getElem?_eq_getElem (by omega)⟩
    obtain ⟨b20, o21, cs_b20, ow_b20, ci_b20, ie25, hb22, hc23, hr24⟩ := IsRow.at (P := Tryd.prog) (t := 40) (e := 61) (k := .i64) (by kernel_rfl) (by kernel_rfl) (hm.keep hs) i26 hx_x27
    refine dq.c (v := .pointer (some ⟨b20, o21, none⟩)) rfl (by kernel_rfl) rfl rfl ie25 rfl ?_
    refine dq.g (v := .agg #[.string (x27.1), .string (x27.2)]) rfl (by kernel_rfl) rfl rfl (ldR (P := Tryd.prog) (t := 61) (k := 2) (xs := [.string (x27.1), .string (x27.2)]) (by kernel_rfl) (by kernel_rfl) hr24) rfl ?_
    refine dq.c (v := .bool (!decide (x19 = x27))) rfl (by kernel_rfl) rfl rfl (labNe _ _) rfl ?_
    refine dq.e ?_
    by_cases c6_10 : x19 = x27
    ·rw [decide_eq_true c6_10]
     refine AWp.condF rfl rfl ?_
     refine AWp.skip (AWp.rowV (l := _) pok ?_)
     refine sq.c (v := .int .i64 (i)) rfl rfl rfl rfl ?_
     refine sq.c (v := .int .i64 (i + 1)) rfl rfl (okI (wrap_i64 (by omega) (by omega))) rfl ?_
     refine sq.c (v := .int .i64 (i + 1)) rfl rfl rfl rfl ?_
     refine sq.e ?_
     have hy : ∀ k : Nat, (k : Int) < i + 1 → ls[k]? = ms[k]? := by
      intro k hk
      by_cases e : k = i.toNat
      ·rw [e, hx_x19, hx_x27, c6_10]
      ·exact hyes k (by omega)
     refine ⟨_, _, rfl, by omega, i + 1, rfl, hs, hn, hf, hb1, hb5, (by omega), (by omega), (hy), getV [undef, undef, undef, undef, (y9 4), undef, undef, undef, undef, undef, undef, undef, undef, undef, undef, undef, undef, undef, undef, undef, undef, undef, undef, .int .i64 (i), .pointer (some ⟨n, 0, none⟩), .slice a1 (ls.length) p1, .int .i64 (((ls.length : Nat) : Int)), .bool true, .int .i64 (i), .int .i64 (i + 1), .pointer (some ⟨n, 0, none⟩), .slice a1 (ls.length) p1, .int .i64 (i), .pointer (some ⟨b12, o13, none⟩), .agg #[.string (x19.1), .string (x19.2)], .pointer (some ⟨n3, 0, none⟩), .slice a3 (ms.length) p3, .int .i64 (i), .pointer (some ⟨b20, o21, none⟩), .agg #[.string (x27.1), .string (x27.2)], .bool false], rfl⟩
    ·rw [decide_eq_false c6_10]
     refine AWp.condT rfl rfl ?_
     refine AWp.seq (AWp.rowV (l := _) pok ?_)
     refine sq.c (v := .bool false) rfl rfl rfl rfl ?_
     refine sq.e ?_
     refine AWp.ret ?_
     refine ⟨rfl, [.bool false], rfl, .bool false, rfl, hs, hn, ?_⟩
     show Value.bool false = .bool (decide ((ls, xs) = (ms, ys)))
     exact congrArg Value.bool (decide_eq_false (pair_ne (.inl (one_not hx_x19 hx_x27 c6_10)))).symm
   ·rw [decide_eq_false c4_4]
    refine AWp.condF rfl rfl ?_
    refine AWp.exit ?_
    refine AWp.seq (AWp.seq (AWp.rowV (l := _) pok ?_))
    refine sq.c (v := .int .i64 (0)) rfl rfl rfl rfl ?_
    refine sq.e (AWp.block ?_)
    have hyl := hyes
    refine AWp.loopV (fun d vs h29 n30 => ∃ (j : Int), d = ((xs.length : Nat) - j + 1).toNat ∧ SubBut h h29 ([]) ∧ n ≤ n30 ∧ Free h29 n30 ∧ h29.get n = some (.cells [.slice a1 (ls.length) p1, .slice a2 (xs.length) p2] true ⟨43, 0, true⟩) ∧ h29.get n3 = some (.cells [.slice a3 (ms.length) p3, .slice a4 (ys.length) p4] true ⟨43, 0, true⟩) ∧ (0 ≤ j) ∧ (j ≤ (xs.length : Nat)) ∧ (∀ k : Nat, (k : Int) < j → xs[k]? = ys[k]?) ∧ ∃ y28 : Nat → Value, vs = [.agg #[.slice a1 (ls.length) p1, .slice a2 (xs.length) p2], .agg #[.slice a3 (ms.length) p3, .slice a4 (ys.length) p4], .pointer (some ⟨n, 0, none⟩), .pointer (some ⟨n3, 0, none⟩), (y28 4), .int .i64 (i), .int .i64 (j), .pointer (some ⟨n, 0, none⟩), .slice a1 (ls.length) p1, .int .i64 (((ls.length : Nat) : Int)), .pointer (some ⟨n3, 0, none⟩), .slice a3 (ms.length) p3, .int .i64 (((ms.length : Nat) : Int)), .bool false, .bool false, .pointer (some ⟨n, 1, none⟩), .slice a2 (xs.length) p2, .int .i64 (((xs.length : Nat) : Int)), .pointer (some ⟨n3, 1, none⟩), .slice a4 (ys.length) p4, .int .i64 (((ys.length : Nat) : Int)), .bool false, .bool false, .int .i64 (i), .pointer (some ⟨n, 0, none⟩), .slice a1 (ls.length) p1, .int .i64 (((ls.length : Nat) : Int)), .bool false, (y9 28), (y9 29), (y9 30), (y9 31), (y9 32), (y9 33), (y9 34), (y9 35), (y9 36), (y9 37), (y9 38), (y9 39), (y9 40), (y28 41), (y28 42), (y28 43), (y28 44), (y28 45), (y28 46), (y28 47), (y28 48), (y28 49), (y28 50), (y28 51), (y28 52), (y28 53), (y28 54), (y28 55), (y28 56), (y28 57), (y28 58)]) (((xs.length : Nat) - (0 : Int) + 1).toNat) ⟨0, rfl, hs, hn, hf, hb1, hb5, (by omega), (by omega), (fun j hj => by omega), getV [undef, undef, undef, undef, (y9 4), undef, undef, undef, undef, undef, undef, undef, undef, undef, undef, undef, undef, undef, undef, undef, undef, undef, undef, undef, undef, undef, undef, undef, undef, undef, undef, undef, undef, undef, undef, undef, undef, undef, undef, undef, undef, undef, undef, undef, undef, undef, undef, undef, undef, undef, undef, undef, undef, undef, undef, undef, undef, undef, undef], rfl⟩ ?_
    rintro d vs h29 n30 ⟨j, rfl, hs, hn, hf, hb1, hb5, hi0, hi1, hyes, y28, rfl⟩
    refine AWp.seq (AWp.seq (AWp.rowV (l := _) pok ?_))
    refine sq.c (v := .int .i64 (j)) rfl rfl rfl rfl ?_
    refine sq.c (v := .pointer (some ⟨n, 1, none⟩)) rfl rfl (by kernel_rfl) rfl ?_
    refine sq.c (v := .slice a2 (xs.length) p2) rfl rfl (ld1 (P := Tryd.prog) (t := 41) (p := 1) (v := .slice a2 (xs.length) p2) (by kernel_rfl) (by kernel_rfl) hb1 rfl) rfl ?_
    refine sq.c (v := .int .i64 (((xs.length : Nat) : Int))) rfl rfl (by kernel_rfl) rfl ?_
    refine sq.c (v := .bool (decide (j < (((xs.length : Nat) : Int))))) rfl rfl rfl rfl ?_
    refine sq.e ?_
    by_cases c9_4 : j < (((xs.length : Nat) : Int))
    ·rw [decide_eq_true c9_4]
     refine AWp.condT rfl rfl ?_
     refine AWp.skip (AWp.seq (AWp.block (AWp.seq ?_)))
     refine AWp.anyV pok [] [0, 1, 2, 3, 4, 5, 6, 7, 8, 9, 10] (by kernel_rfl) (by kernel_rfl) rfl (fun x fr fr' h n hd _ q => ⟨hd ▸ q.1, q.2⟩) ?_
     refine dq.c (v := .pointer (some ⟨n, 1, none⟩)) rfl (by kernel_rfl) rfl rfl (by kernel_rfl) rfl ?_
     refine dq.g (v := .slice a2 (xs.length) p2) rfl (by kernel_rfl) rfl rfl (ld1 (P := Tryd.prog) (t := 41) (p := 1) (v := .slice a2 (xs.length) p2) (by kernel_rfl) (by kernel_rfl) hb1 rfl) rfl ?_
     refine dq.c (v := .int .i64 (j)) rfl (by kernel_rfl) rfl rfl rfl rfl ?_
     have i37 : (0 : Int) ≤ (j : Int) := by omega
     obtain ⟨x38, hx_x38⟩ : ∃ x, (xs)[((j : Int)).toNat]? = some x := ⟨_, List.getElem?_eq_getElem (by omega)⟩
     obtain ⟨b31, o32, cs_b31, ow_b31, ci_b31, ie36, hb33, hc34, hr35⟩ := IsRow.at (P := Tryd.prog) (t := 41) (e := 53) (k := .i64) (by kernel_rfl) (by kernel_rfl) (hx.keep hs) i37 hx_x38
     refine dq.c (v := .pointer (some ⟨b31, o32, none⟩)) rfl (by kernel_rfl) rfl rfl ie36 rfl ?_
     refine dq.g (v := .agg #[.int .i64 (x38.1), .int .u64 (x38.2)]) rfl (by kernel_rfl) rfl rfl (ldR (P := Tryd.prog) (t := 53) (k := 2) (xs := [.int .i64 (x38.1), .int .u64 (x38.2)]) (by kernel_rfl) (by kernel_rfl) hr35) rfl ?_
     refine dq.c (v := .pointer (some ⟨n3, 1, none⟩)) rfl (by kernel_rfl) rfl rfl (by kernel_rfl) rfl ?_
     refine dq.g (v := .slice a4 (ys.length) p4) rfl (by kernel_rfl) rfl rfl (ld1 (P := Tryd.prog) (t := 41) (p := 1) (v := .slice a4 (ys.length) p4) (by kernel_rfl) (by kernel_rfl) hb5 rfl) rfl ?_
     refine dq.c (v := .int .i64 (j)) rfl (by kernel_rfl) rfl rfl rfl rfl ?_
     have i45 : (0 : Int) ≤ (j : Int) := by omega
     obtain ⟨x46, hx_x46⟩ : ∃ x, (ys)[((j : Int)).toNat]? = some x := ⟨_, List.getElem?_eq_getElem (by omega)⟩
     obtain ⟨b39, o40, cs_b39, ow_b39, ci_b39, ie44, hb41, hc42, hr43⟩ := IsRow.at (P := Tryd.prog) (t := 41) (e := 53) (k := .i64) (by kernel_rfl) (by kernel_rfl) (hy.keep hs) i45 hx_x46
     refine dq.c (v := .pointer (some ⟨b39, o40, none⟩)) rfl (by kernel_rfl) rfl rfl ie44 rfl ?_
     refine dq.g (v := .agg #[.int .i64 (x46.1), .int .u64 (x46.2)]) rfl (by kernel_rfl) rfl rfl (ldR (P := Tryd.prog) (t := 53) (k := 2) (xs := [.int .i64 (x46.1), .int .u64 (x46.2)]) (by kernel_rfl) (by kernel_rfl) hr43) rfl ?_
     refine dq.c (v := .bool (!decide (x38 = x46))) rfl (by kernel_rfl) rfl rfl (smpNe _ _) rfl ?_
     refine dq.e ?_
     by_cases c11_10 : x38 = x46
     ·rw [decide_eq_true c11_10]
      refine AWp.condF rfl rfl ?_
      refine AWp.skip (AWp.rowV (l := _) pok ?_)
      refine sq.c (v := .int .i64 (j)) rfl rfl rfl rfl ?_
      refine sq.c (v := .int .i64 (j + 1)) rfl rfl (okI (wrap_i64 (by omega) (by omega))) rfl ?_
      refine sq.c (v := .int .i64 (j + 1)) rfl rfl rfl rfl ?_
      refine sq.e ?_
      have hy : ∀ k : Nat, (k : Int) < j + 1 → xs[k]? = ys[k]? := by
       intro k hk
       by_cases e : k = j.toNat
       ·rw [e, hx_x38, hx_x46, c11_10]
       ·exact hyes k (by omega)
      refine ⟨_, _, rfl, by omega, j + 1, rfl, hs, hn, hf, hb1, hb5, (by omega), (by omega), (hy), getV [undef, undef, undef, undef, (y28 4), undef, undef, undef, undef, undef, undef, undef, undef, undef, undef, undef, undef, undef, undef, undef, undef, undef, undef, undef, undef, undef, undef, undef, undef, undef, undef, undef, undef, undef, undef, undef, undef, undef, undef, undef, undef, .int .i64 (j), .pointer (some ⟨n, 1, none⟩), .slice a2 (xs.length) p2, .int .i64 (((xs.length : Nat) : Int)), .bool true, .int .i64 (j), .int .i64 (j + 1), .pointer (some ⟨n, 1, none⟩), .slice a2 (xs.length) p2, .int .i64 (j), .pointer (some ⟨b31, o32, none⟩), .agg #[.int .i64 (x38.1), .int .u64 (x38.2)], .pointer (some ⟨n3, 1, none⟩), .slice a4 (ys.length) p4, .int .i64 (j), .pointer (some ⟨b39, o40, none⟩), .agg #[.int .i64 (x46.1), .int .u64 (x46.2)], .bool false], rfl⟩
     ·rw [decide_eq_false c11_10]
      refine AWp.condT rfl rfl ?_
      refine AWp.seq (AWp.rowV (l := _) pok ?_)
      refine sq.c (v := .bool false) rfl rfl rfl rfl ?_
      refine sq.e ?_
      refine AWp.ret ?_
      refine ⟨rfl, [.bool false], rfl, .bool false, rfl, hs, hn, ?_⟩
      show Value.bool false = .bool (decide ((ls, xs) = (ms, ys)))
      exact congrArg Value.bool (decide_eq_false (pair_ne (.inr (one_not hx_x38 hx_x46 c11_10)))).symm
    ·rw [decide_eq_false c9_4]
     refine AWp.condF rfl rfl ?_
     refine AWp.exit ?_
     refine AWp.seq (AWp.rowV (l := _) pok ?_)
     refine sq.c (v := .bool true) rfl rfl rfl rfl ?_
     refine sq.e ?_
     refine AWp.ret ?_
     refine ⟨rfl, [.bool true], rfl, .bool true, rfl, hs, hn, ?_⟩
     show Value.bool true = .bool (decide ((ls, xs) = (ms, ys)))
     have e1 : ls = ms := all_same (Int.ofNat.inj c1_6) (fun j hj => hyl j (by omega))
     have e2 : xs = ys := all_same (Int.ofNat.inj c1_14) (fun k hk => hyes k (by omega))
     rw [e1, e2]
     exact congrArg Value.bool (decide_eq_true rfl).symm
  ·rw [decide_eq_false c1_14]
   refine AWp.condT rfl rfl ?_
   refine AWp.seq (AWp.rowV (l := _) pok ?_)
   refine sq.c (v := .bool false) rfl rfl rfl rfl ?_
   refine sq.e ?_
   refine AWp.ret ?_
   refine ⟨rfl, [.bool false], rfl, .bool false, rfl, hs, hn, ?_⟩
   show Value.bool false = .bool (decide ((ls, xs) = (ms, ys)))
   exact congrArg Value.bool (decide_eq_false (pair_ne (.inr fun e => c1_14 (by rw [e])))).symm
 ·rw [decide_eq_false c1_6]
  refine sq.s (wantF (g := 7) (d := 14) rfl rfl rfl) rfl ?_
  refine sq.s (wantF (g := 7) (d := 14) rfl rfl rfl) rfl ?_
  refine sq.s (wantF (g := 7) (d := 14) rfl rfl rfl) rfl ?_
  refine sq.s (wantF (g := 7) (d := 14) rfl rfl rfl) rfl ?_
  refine sq.s (wantF (g := 7) (d := 14) rfl rfl rfl) rfl ?_
  refine sq.s (wantF (g := 7) (d := 14) rfl rfl rfl) rfl ?_
  refine sq.s (wantF (g := 7) (d := 14) rfl rfl rfl) rfl ?_
  refine sq.c (v := .bool true) rfl rfl rfl rfl ?_
  refine sq.e ?_
  refine AWp.condT rfl rfl ?_
  refine AWp.seq (AWp.rowV (l := _) pok ?_)
  refine sq.c (v := .bool false) rfl rfl rfl rfl ?_
  refine sq.e ?_
  refine AWp.ret ?_
  refine ⟨rfl, [.bool false], rfl, .bool false, rfl, hs, hn, ?_⟩
  show Value.bool false = .bool (decide ((ls, xs) = (ms, ys)))
  exact congrArg Value.bool (decide_eq_false (pair_ne (.inl fun e => c1_6 (by rw [e])))).symm
theorem same6_spec {h : Heap} {n : Nat} {a a2 : Option Addr} {cp cp2 : Nat} (rs qs : List RSer) (ss ts : List Ser) (hr : IsRow encSer h (.slice a rs.length cp) rs) (hd : SersIs h rs ss) (hq : IsRow encSer h (.slice a2 qs.length cp2) qs) (he : SersIs h qs ts) (hlen : rs.length < 1000000000000) (hsz : ∀ s ∈ ss, s.1.length < 1000000000000 ∧ s.2.length < 1000000000000) :
    Tells Tryd.prog 32 [.slice a (rs.length) cp, .slice a2 (qs.length) cp2] h n (.bool (decide (ss = ts))) := by
 refine Makes.tells (Makes.free fun hf => ?_)
 have hs : SubBut h h ([]) := .refl _ _
 have hn : n ≤ n := Nat.le_refl _
 have hf0 := hf
 refine Makes.of_bodyV (args := [.slice a (rs.length) cp, .slice a2 (qs.length) cp2]) (vs := [.slice a (rs.length) cp, .slice a2 (qs.length) cp2, undef, undef, undef, undef, undef, undef, undef, undef, undef, undef, undef, undef, undef, undef, undef, undef, undef, undef, undef, undef, undef, undef, undef, undef, undef]) Tryd.func32 rfl rfl ?_
 refine AWp.seq (AWp.rowV (l := _) pok ?_)
 refine sq.c (v := .bool false) rfl rfl rfl rfl ?_
 refine sq.e (AWp.seq (AWp.seq (AWp.rowV (l := _) pok ?_)))
 refine sq.c (v := .slice a (rs.length) cp) rfl rfl rfl rfl ?_
 refine sq.c (v := .int .i64 (((rs.length : Nat) : Int))) rfl rfl (by kernel_rfl) rfl ?_
 refine sq.c (v := .slice a2 (qs.length) cp2) rfl rfl rfl rfl ?_
 refine sq.c (v := .int .i64 (((qs.length : Nat) : Int))) rfl rfl (by kernel_rfl) rfl ?_
 refine sq.c (v := .bool (!decide ((((rs.length : Nat) : Int)) = (((qs.length : Nat) : Int))))) rfl rfl rfl rfl ?_
 refine sq.e ?_
 by_cases c1_4 : (((rs.length : Nat) : Int)) = (((qs.length : Nat) : Int))
 ·rw [decide_eq_true c1_4]
  refine AWp.condF rfl rfl ?_
  refine AWp.skip (AWp.seq (AWp.seq (AWp.rowV (l := _) pok ?_)))
  refine sq.c (v := .int .i64 (0)) rfl rfl rfl rfl ?_
  refine sq.e (AWp.block ?_)
  refine AWp.loopV (fun d vs h2 n3 => ∃ (i : Int), d = ((rs.length : Nat) - i + 1).toNat ∧ SubBut h h2 ([]) ∧ n ≤ n3 ∧ Free h2 n3 ∧ (0 ≤ i) ∧ (i ≤ (rs.length : Nat)) ∧ (∀ j : Nat, (j : Int) < i → ss[j]? = ts[j]?) ∧ ∃ y1 : Nat → Value, vs = [.slice a (rs.length) cp, .slice a2 (qs.length) cp2, undef, undef, (y1 4), .int .i64 (i), .slice a (rs.length) cp, .int .i64 (((rs.length : Nat) : Int)), .slice a2 (qs.length) cp2, .int .i64 (((qs.length : Nat) : Int)), .bool false, (y1 11), (y1 12), (y1 13), (y1 14), (y1 15), (y1 16), (y1 17), (y1 18), (y1 19), (y1 20), (y1 21), (y1 22), (y1 23), (y1 24), (y1 25), (y1 26)]) (((rs.length : Nat) - (0 : Int) + 1).toNat) ⟨0, rfl, hs, hn, hf, (by omega), (by omega), (fun j hj => by omega), getV [undef, undef, undef, undef, .bool false, undef, undef, undef, undef, undef, undef, undef, undef, undef, undef, undef, undef, undef, undef, undef, undef, undef, undef, undef, undef, undef, undef], rfl⟩ ?_
  rintro d vs h2 n3 ⟨i, rfl, hs, hn, hf, hi0, hi1, hyes, y1, rfl⟩
  refine AWp.seq (AWp.seq (AWp.rowV (l := _) pok ?_))
  refine sq.c (v := .int .i64 (i)) rfl rfl rfl rfl ?_
  refine sq.c (v := .slice a (rs.length) cp) rfl rfl rfl rfl ?_
  refine sq.c (v := .int .i64 (((rs.length : Nat) : Int))) rfl rfl (by kernel_rfl) rfl ?_
  refine sq.c (v := .bool (decide (i < (((rs.length : Nat) : Int))))) rfl rfl rfl rfl ?_
  refine sq.e ?_
  by_cases c4_3 : i < (((rs.length : Nat) : Int))
  ·rw [decide_eq_true c4_3]
   refine AWp.condT rfl rfl ?_
   refine AWp.skip (AWp.seq (AWp.block (AWp.seq ?_)))
   refine AWp.anyV pok [] [0, 1, 2, 3, 4, 5, 6, 7, 8, 9] (by kernel_rfl) (by kernel_rfl) rfl (fun x fr fr' h n hd _ q => ⟨hd ▸ q.1, q.2⟩) ?_
   refine dq.c (v := .slice a (rs.length) cp) rfl (by kernel_rfl) rfl rfl rfl rfl ?_
   refine dq.c (v := .int .i64 (i)) rfl (by kernel_rfl) rfl rfl rfl rfl ?_
   have i10 : (0 : Int) ≤ (i : Int) := by omega
   obtain ⟨x11, hx_x11⟩ : ∃ x, (rs)[((i : Int)).toNat]? = some x := ⟨_, List.getElem?_eq_getElem (by omega)⟩
   obtain ⟨y_x11, hy_x11, L_x11, M_x11⟩ := hd.at hx_x11
   obtain ⟨v1_x11, v2_x11⟩ := x11
   obtain ⟨a1_x11, c1_x11, rfl⟩ := (show IsRow encLab _ v1_x11 y_x11.1 from L_x11).slice
   obtain ⟨a2_x11, c2_x11, rfl⟩ := (show IsRow encSmp _ v2_x11 y_x11.2 from M_x11).slice
   obtain ⟨b4, o5, cs_b4, ow_b4, ci_b4, ie9, hb6, hc7, hr8⟩ := IsRow.at (P := Tryd.prog) (t := 29) (e := 43) (k := .i64) (by kernel_rfl) (by kernel_rfl) (hr.keep hs) i10 hx_x11
   refine dq.c (v := .pointer (some ⟨b4, o5, none⟩)) rfl (by kernel_rfl) rfl rfl ie9 rfl ?_
   refine dq.g (v := .agg #[.slice a1_x11 (y_x11.1.length) c1_x11, .slice a2_x11 (y_x11.2.length) c2_x11]) rfl (by kernel_rfl) rfl rfl (ldR (P := Tryd.prog) (t := 43) (k := 2) (xs := [.slice a1_x11 (y_x11.1.length) c1_x11, .slice a2_x11 (y_x11.2.length) c2_x11]) (by kernel_rfl) (by kernel_rfl) hr8) rfl ?_
   refine dq.c (v := .slice a2 (qs.length) cp2) rfl (by kernel_rfl) rfl rfl rfl rfl ?_
   refine dq.c (v := .int .i64 (i)) rfl (by kernel_rfl) rfl rfl rfl rfl ?_
   have i18 : (0 : Int) ≤ (i : Int) := by omega
   obtain ⟨x19, hx_x19⟩ : ∃ x, (qs)[((i : Int)).toNat]? = some x := ⟨_, List.getElem?_eq_getElem (by omega)⟩
   obtain ⟨y_x19, hy_x19, L_x19, M_x19⟩ := he.at hx_x19
   obtain ⟨v1_x19, v2_x19⟩ := x19
   obtain ⟨a1_x19, c1_x19, rfl⟩ := (show IsRow encLab _ v1_x19 y_x19.1 from L_x19).slice
   obtain ⟨a2_x19, c2_x19, rfl⟩ := (show IsRow encSmp _ v2_x19 y_x19.2 from M_x19).slice
   obtain ⟨b12, o13, cs_b12, ow_b12, ci_b12, ie17, hb14, hc15, hr16⟩ := IsRow.at (P := Tryd.prog) (t := 29) (e := 43) (k := .i64) (by kernel_rfl) (by kernel_rfl) (hq.keep hs) i18 hx_x19
   refine dq.c (v := .pointer (some ⟨b12, o13, none⟩)) rfl (by kernel_rfl) rfl rfl ie17 rfl ?_
   refine dq.g (v := .agg #[.slice a1_x19 (y_x19.1.length) c1_x19, .slice a2_x19 (y_x19.2.length) c2_x19]) rfl (by kernel_rfl) rfl rfl (ldR (P := Tryd.prog) (t := 43) (k := 2) (xs := [.slice a1_x19 (y_x19.1.length) c1_x19, .slice a2_x19 (y_x19.2.length) c2_x19]) (by kernel_rfl) (by kernel_rfl) hr16) rfl ?_
   refine dq.t (v := .bool (decide ((y_x11.1, y_x11.2) = (y_x19.1, y_x19.2)))) rfl (by kernel_rfl) rfl (CallsF.fn rfl (by kernel_rfl) rfl rfl) (fun hf => alike_spec _ _ _ _ (L_x11.keep hs) (M_x11.keep hs) (L_x19.keep hs) (M_x19.keep hs) (hsz _ (List.mem_of_getElem? hy_x11)).1 (hsz _ (List.mem_of_getElem? hy_x11)).2) hf rfl ?_
   intro n20 hn2 hf
   have hn := Nat.le_trans hn hn2
   rcases Bool.eq_false_or_eq_true (decide ((y_x11.1, y_x11.2) = (y_x19.1, y_x19.2))) with c6_8 | c6_8
   ·rw [c6_8]
    refine dq.c (v := .bool false) rfl (by kernel_rfl) rfl rfl rfl rfl ?_
    refine dq.e ?_
    refine AWp.condF rfl rfl ?_
    refine AWp.skip (AWp.rowV (l := _) pok ?_)
    refine sq.c (v := .int .i64 (i)) rfl rfl rfl rfl ?_
    refine sq.c (v := .int .i64 (i + 1)) rfl rfl (okI (wrap_i64 (by omega) (by omega))) rfl ?_
    refine sq.c (v := .int .i64 (i + 1)) rfl rfl rfl rfl ?_
    refine sq.e ?_
    have hy : ∀ j : Nat, (j : Int) < i + 1 → ss[j]? = ts[j]? := by
     intro j hj
     by_cases e : j = i.toNat
     ·rw [e, hy_x11, hy_x19]; exact congrArg some (of_decide_eq_true c6_8)
     ·exact hyes j (by omega)
    refine ⟨_, _, rfl, by omega, i + 1, rfl, hs, hn, hf, (by omega), (by omega), (hy), getV [undef, undef, undef, undef, (y1 4), undef, undef, undef, undef, undef, undef, .int .i64 (i), .slice a (rs.length) cp, .int .i64 (((rs.length : Nat) : Int)), .bool true, .int .i64 (i), .int .i64 (i + 1), .slice a (rs.length) cp, .int .i64 (i), .pointer (some ⟨b4, o5, none⟩), .agg #[.slice a1_x11 (y_x11.1.length) c1_x11, .slice a2_x11 (y_x11.2.length) c2_x11], .slice a2 (qs.length) cp2, .int .i64 (i), .pointer (some ⟨b12, o13, none⟩), .agg #[.slice a1_x19 (y_x19.1.length) c1_x19, .slice a2_x19 (y_x19.2.length) c2_x19], .bool true, .bool false], rfl⟩
   ·rw [c6_8]
    refine dq.c (v := .bool true) rfl (by kernel_rfl) rfl rfl rfl rfl ?_
    refine dq.e ?_
    refine AWp.condT rfl rfl ?_
    refine AWp.seq (AWp.rowV (l := _) pok ?_)
    refine sq.c (v := .bool false) rfl rfl rfl rfl ?_
    refine sq.e ?_
    refine AWp.ret ?_
    refine ⟨rfl, [.bool false], rfl, .bool false, rfl, hs, hn, ?_⟩
    show Value.bool false = .bool (decide (ss = ts))
    exact congrArg Value.bool (decide_eq_false (one_not hy_x11 hy_x19 (of_decide_eq_false c6_8))).symm
  ·rw [decide_eq_false c4_3]
   refine AWp.condF rfl rfl ?_
   refine AWp.exit ?_
   refine AWp.seq (AWp.rowV (l := _) pok ?_)
   refine sq.c (v := .bool true) rfl rfl rfl rfl ?_
   refine sq.e ?_
   refine AWp.ret ?_
   refine ⟨rfl, [.bool true], rfl, .bool true, rfl, hs, hn, ?_⟩
   show Value.bool true = .bool (decide (ss = ts))
   exact congrArg Value.bool (decide_eq_true (all_same (by rw [← hd.1, ← he.1]; exact Int.ofNat.inj c1_4) (fun j hj => hyes j (by rw [← hd.1] at hj; omega)))).symm
 ·rw [decide_eq_false c1_4]
  refine AWp.condT rfl rfl ?_
  refine AWp.seq (AWp.rowV (l := _) pok ?_)
  refine sq.c (v := .bool false) rfl rfl rfl rfl ?_
  refine sq.e ?_
  refine AWp.ret ?_
  refine ⟨rfl, [.bool false], rfl, .bool false, rfl, hs, hn, ?_⟩
  show Value.bool false = .bool (decide (ss = ts))
  exact congrArg Value.bool (decide_eq_false (fun e => c1_4 (by rw [hd.1, he.1, e]))).symm
theorem sameBat_spec {h : Heap} {n : Nat} {a a2 : Option Addr} {cp cp2 : Nat} (t1 c1 t2 c2 : ByteArray) (e1 e2 : Int) (rs qs : List RSer) (ss ts : List Ser) (hr : IsRow encSer h (.slice a rs.length cp) rs) (hd : SersIs h rs ss) (hq : IsRow encSer h (.slice a2 qs.length cp2) qs) (he : SersIs h qs ts) (hlen : rs.length < 1000000000000) (hsz : ∀ s ∈ ss, s.1.length < 1000000000000 ∧ s.2.length < 1000000000000) :
    Tells Tryd.prog 14 [.agg #[.string (t1), .string (c1), .int .i64 (e1), .slice a (rs.length) cp], .agg #[.string (t2), .string (c2), .int .i64 (e2), .slice a2 (qs.length) cp2]] h n (.bool (decide (t1 = t2 ∧ c1 = c2 ∧ e1 = e2 ∧ ss = ts))) := by
 refine Makes.tells (Makes.free fun hf => ?_)
 have hs : SubBut h h ([]) := .refl _ _
 have hn : n ≤ n := Nat.le_refl _
 have hf0 := hf
 refine Makes.of_bodyV (args := [.agg #[.string (t1), .string (c1), .int .i64 (e1), .slice a (rs.length) cp], .agg #[.string (t2), .string (c2), .int .i64 (e2), .slice a2 (qs.length) cp2]]) (vs := [.agg #[.string (t1), .string (c1), .int .i64 (e1), .slice a (rs.length) cp], .agg #[.string (t2), .string (c2), .int .i64 (e2), .slice a2 (qs.length) cp2], undef, undef, undef, undef, undef, undef, undef, undef, undef, undef, undef, undef, undef, undef, undef, undef, undef, undef, undef, undef, undef, undef, undef, undef, undef, undef, undef, undef, undef]) Tryd.func14 rfl rfl ?_
 refine AWp.seq (AWp.rowV (l := _) pok ?_)
 refine sq.op rfl rfl (Does.box (cs := [.string (t1), .string (c1), .int .i64 (e1), .slice a (rs.length) cp]) hf rfl rfl) ?_
 rintro _ h2 n3 ⟨rfl, hb1⟩ s4 hn2 hf
 refine sq.w ?_
 have hs := hs.trans s4
 have hn := Nat.le_trans hn hn2
 refine sq.op rfl rfl (Does.box (cs := [.string (t2), .string (c2), .int .i64 (e2), .slice a2 (qs.length) cp2]) hf rfl rfl) ?_
 rintro _ h6 n7 ⟨rfl, hb5⟩ s8 hn2 hf
 refine sq.w ?_
 have hb1 := s8.sub _ _ hb1
 have hs := hs.trans s8
 have hn := Nat.le_trans hn hn2
 refine sq.c (v := .bool false) rfl rfl rfl rfl ?_
 refine sq.e (AWp.seq (AWp.rowV (l := _) pok ?_))
 refine sq.c (v := .pointer (some ⟨n, 0, none⟩)) rfl rfl (by kernel_rfl) rfl ?_
 refine sq.c (v := .string (t1)) rfl rfl (ld1 (P := Tryd.prog) (t := 9) (p := 0) (v := .string (t1)) (by kernel_rfl) (by kernel_rfl) hb1 rfl) rfl ?_
 refine sq.c (v := .pointer (some ⟨n3, 0, none⟩)) rfl rfl (by kernel_rfl) rfl ?_
 refine sq.c (v := .string (t2)) rfl rfl (ld1 (P := Tryd.prog) (t := 9) (p := 0) (v := .string (t2)) (by kernel_rfl) (by kernel_rfl) hb5 rfl) rfl ?_
 refine sq.c (v := .bool (decide (t1 = t2))) rfl rfl (eqD _ _) rfl ?_
 refine sq.c (v := .bool (decide (t1 = t2))) rfl rfl rfl rfl ?_
 by_cases c1_4 : t1 = t2
 ·rw [decide_eq_true c1_4]
  refine sq.c (v := .pointer (some ⟨n, 1, none⟩)) (wantT (g := 5) (d := 10) rfl rfl rfl) rfl (by kernel_rfl) rfl ?_
  refine sq.c (v := .string (c1)) (wantT (g := 5) (d := 10) rfl rfl rfl) rfl (ld1 (P := Tryd.prog) (t := 9) (p := 1) (v := .string (c1)) (by kernel_rfl) (by kernel_rfl) hb1 rfl) rfl ?_
  refine sq.c (v := .pointer (some ⟨n3, 1, none⟩)) (wantT (g := 5) (d := 10) rfl rfl rfl) rfl (by kernel_rfl) rfl ?_
  refine sq.c (v := .string (c2)) (wantT (g := 5) (d := 10) rfl rfl rfl) rfl (ld1 (P := Tryd.prog) (t := 9) (p := 1) (v := .string (c2)) (by kernel_rfl) (by kernel_rfl) hb5 rfl) rfl ?_
  refine sq.c (v := .bool (decide (c1 = c2))) (wantT (g := 5) (d := 10) rfl rfl rfl) rfl (eqD _ _) rfl ?_
  refine sq.c (v := .bool (decide (c1 = c2))) rfl rfl rfl rfl ?_
  refine sq.c (v := .bool (decide (c1 = c2))) rfl rfl rfl rfl ?_
  by_cases c1_10 : c1 = c2
  ·rw [decide_eq_true c1_10]
   refine sq.c (v := .pointer (some ⟨n, 2, none⟩)) (wantT (g := 12) (d := 17) rfl rfl rfl) rfl (by kernel_rfl) rfl ?_
   refine sq.c (v := .int .i64 (e1)) (wantT (g := 12) (d := 17) rfl rfl rfl) rfl (ld1 (P := Tryd.prog) (t := 2) (p := 2) (v := .int .i64 (e1)) (by kernel_rfl) (by kernel_rfl) hb1 rfl) rfl ?_
   refine sq.c (v := .pointer (some ⟨n3, 2, none⟩)) (wantT (g := 12) (d := 17) rfl rfl rfl) rfl (by kernel_rfl) rfl ?_
   refine sq.c (v := .int .i64 (e2)) (wantT (g := 12) (d := 17) rfl rfl rfl) rfl (ld1 (P := Tryd.prog) (t := 2) (p := 2) (v := .int .i64 (e2)) (by kernel_rfl) (by kernel_rfl) hb5 rfl) rfl ?_
   refine sq.c (v := .bool (decide (e1 = e2))) (wantT (g := 12) (d := 17) rfl rfl rfl) rfl rfl rfl ?_
   refine sq.c (v := .bool (decide (e1 = e2))) rfl rfl rfl rfl ?_
   refine sq.c (v := .bool (decide (e1 = e2))) rfl rfl rfl rfl ?_
   by_cases c1_17 : e1 = e2
   ·rw [decide_eq_true c1_17]
    refine sq.c (v := .pointer (some ⟨n, 3, none⟩)) (wantT (g := 19) (d := 24) rfl rfl rfl) rfl (by kernel_rfl) rfl ?_
    refine sq.c (v := .slice a (rs.length) cp) (wantT (g := 19) (d := 24) rfl rfl rfl) rfl (ld1 (P := Tryd.prog) (t := 29) (p := 3) (v := .slice a (rs.length) cp) (by kernel_rfl) (by kernel_rfl) hb1 rfl) rfl ?_
    refine sq.c (v := .pointer (some ⟨n3, 3, none⟩)) (wantT (g := 19) (d := 24) rfl rfl rfl) rfl (by kernel_rfl) rfl ?_
    refine sq.c (v := .slice a2 (qs.length) cp2) (wantT (g := 19) (d := 24) rfl rfl rfl) rfl (ld1 (P := Tryd.prog) (t := 29) (p := 3) (v := .slice a2 (qs.length) cp2) (by kernel_rfl) (by kernel_rfl) hb5 rfl) rfl ?_
    refine sq.t (v := .bool (decide (ss = ts))) (wantT (g := 19) (d := 24) rfl rfl rfl) (CallsF.fn rfl (by kernel_rfl) rfl rfl) (fun hf => same6_spec _ _ _ _ (hr.keep hs) (hd.keep hs) (hq.keep hs) (he.keep hs) hlen hsz) hf rfl ?_
    intro n9 hn2 hf
    have hn := Nat.le_trans hn hn2
    refine sq.c (v := .bool (decide (ss = ts))) rfl rfl rfl rfl ?_
    refine sq.c (v := .bool (decide (ss = ts))) rfl rfl rfl rfl ?_
    refine sq.e ?_
    refine AWp.ret ?_
    refine ⟨rfl, [.bool (decide (ss = ts))], rfl, .bool (decide (ss = ts)), rfl, hs, hn, ?_⟩
    show Value.bool (decide (ss = ts)) = .bool (decide (t1 = t2 ∧ c1 = c2 ∧ e1 = e2 ∧ ss = ts))
    refine congrArg Value.bool ?_
    simp [c1_4, c1_10, c1_17]
   ·rw [decide_eq_false c1_17]
    refine sq.s (wantF (g := 19) (d := 24) rfl rfl rfl) rfl ?_
    refine sq.s (wantF (g := 19) (d := 24) rfl rfl rfl) rfl ?_
    refine sq.s (wantF (g := 19) (d := 24) rfl rfl rfl) rfl ?_
    refine sq.s (wantF (g := 19) (d := 24) rfl rfl rfl) rfl ?_
    refine sq.s (wantF (g := 19) (d := 24) rfl rfl rfl) rfl ?_
    refine sq.c (v := .bool false) rfl rfl rfl rfl ?_
    refine sq.c (v := .bool false) rfl rfl rfl rfl ?_
    refine sq.e ?_
    refine AWp.ret ?_
    refine ⟨rfl, [.bool false], rfl, .bool false, rfl, hs, hn, ?_⟩
    show Value.bool false = .bool (decide (t1 = t2 ∧ c1 = c2 ∧ e1 = e2 ∧ ss = ts))
    refine congrArg Value.bool ?_
    simp [c1_4, c1_10, c1_17]
  ·rw [decide_eq_false c1_10]
   refine sq.s (wantF (g := 12) (d := 17) rfl rfl rfl) rfl ?_
   refine sq.s (wantF (g := 12) (d := 17) rfl rfl rfl) rfl ?_
   refine sq.s (wantF (g := 12) (d := 17) rfl rfl rfl) rfl ?_
   refine sq.s (wantF (g := 12) (d := 17) rfl rfl rfl) rfl ?_
   refine sq.s (wantF (g := 12) (d := 17) rfl rfl rfl) rfl ?_
   refine sq.c (v := .bool false) rfl rfl rfl rfl ?_
   refine sq.c (v := .bool false) rfl rfl rfl rfl ?_
   refine sq.s (wantF (g := 19) (d := 24) rfl rfl rfl) rfl ?_
   refine sq.s (wantF (g := 19) (d := 24) rfl rfl rfl) rfl ?_
   refine sq.s (wantF (g := 19) (d := 24) rfl rfl rfl) rfl ?_
   refine sq.s (wantF (g := 19) (d := 24) rfl rfl rfl) rfl ?_
   refine sq.s (wantF (g := 19) (d := 24) rfl rfl rfl) rfl ?_
   refine sq.c (v := .bool false) rfl rfl rfl rfl ?_
   refine sq.c (v := .bool false) rfl rfl rfl rfl ?_
   refine sq.e ?_
   refine AWp.ret ?_
   refine ⟨rfl, [.bool false], rfl, .bool false, rfl, hs, hn, ?_⟩
   show Value.bool false = .bool (decide (t1 = t2 ∧ c1 = c2 ∧ e1 = e2 ∧ ss = ts))
   refine congrArg Value.bool ?_
   simp [c1_4, c1_10]
 ·rw [decide_eq_false c1_4]
  refine sq.s (wantF (g := 5) (d := 10) rfl rfl rfl) rfl ?_
  refine sq.s (wantF (g := 5) (d := 10) rfl rfl rfl) rfl ?_
  refine sq.s (wantF (g := 5) (d := 10) rfl rfl rfl) rfl ?_
  refine sq.s (wantF (g := 5) (d := 10) rfl rfl rfl) rfl ?_
  refine sq.s (wantF (g := 5) (d := 10) rfl rfl rfl) rfl ?_
  refine sq.c (v := .bool false) rfl rfl rfl rfl ?_
  refine sq.c (v := .bool false) rfl rfl rfl rfl ?_
  refine sq.s (wantF (g := 12) (d := 17) rfl rfl rfl) rfl ?_
  refine sq.s (wantF (g := 12) (d := 17) rfl rfl rfl) rfl ?_
  refine sq.s (wantF (g := 12) (d := 17) rfl rfl rfl) rfl ?_
  refine sq.s (wantF (g := 12) (d := 17) rfl rfl rfl) rfl ?_
  refine sq.s (wantF (g := 12) (d := 17) rfl rfl rfl) rfl ?_
  refine sq.c (v := .bool false) rfl rfl rfl rfl ?_
  refine sq.c (v := .bool false) rfl rfl rfl rfl ?_
  refine sq.s (wantF (g := 19) (d := 24) rfl rfl rfl) rfl ?_
  refine sq.s (wantF (g := 19) (d := 24) rfl rfl rfl) rfl ?_
  refine sq.s (wantF (g := 19) (d := 24) rfl rfl rfl) rfl ?_
  refine sq.s (wantF (g := 19) (d := 24) rfl rfl rfl) rfl ?_
  refine sq.s (wantF (g := 19) (d := 24) rfl rfl rfl) rfl ?_
  refine sq.c (v := .bool false) rfl rfl rfl rfl ?_
  refine sq.c (v := .bool false) rfl rfl rfl rfl ?_
  refine sq.e ?_
  refine AWp.ret ?_
  refine ⟨rfl, [.bool false], rfl, .bool false, rfl, hs, hn, ?_⟩
  show Value.bool false = .bool (decide (t1 = t2 ∧ c1 = c2 ∧ e1 = e2 ∧ ss = ts))
  refine congrArg Value.bool ?_
  simp [c1_4]
def BatIs (h : Heap) (r : RBat) (b : Bat) : Prop := r.ten = b.ten ∧ r.clu = b.clu ∧ r.epo = b.epo ∧ ∃ rs, IsRow encSer h r.ser rs ∧ SersIs h rs b.ser
def BatsIs (h : Heap) (rs : List RBat) (bs : List Bat) : Prop := rs.length = bs.length ∧ ∀ (i : Nat) (r : RBat) (b : Bat), rs[i]? = some r → bs[i]? = some b → BatIs h r b
def FBat (h : Heap) (r : RBat) (b : Bat) : Prop := r.ten = b.ten ∧ r.clu = b.clu ∧ r.epo = b.epo ∧ ∃ rs, FRow encSer h r.ser rs ∧ FSers h rs b.ser
def FBats (h : Heap) (rs : List RBat) (bs : List Bat) : Prop := rs.length = bs.length ∧ ∀ (i : Nat) (r : RBat) (b : Bat), rs[i]? = some r → bs[i]? = some b → FBat h r b
theorem FBat.is {h : Heap} {r : RBat} {b : Bat} (q : FBat h r b) : BatIs h r b := let ⟨a, c, d, rs, e, f⟩ := q; ⟨a, c, d, rs, e.is, f.is⟩
theorem FBats.is {h : Heap} {rs : List RBat} {bs : List Bat} (q : FBats h rs bs) : BatsIs h rs bs := ⟨q.1, fun i r s a b => (q.2 i r s a b).is⟩
theorem FBat.keep {h h' : Heap} {r : RBat} {b : Bat} (q : FBat h r b) (k : Keeps h h') : FBat h' r b := let ⟨a, c, d, rs, e, f⟩ := q; ⟨a, c, d, rs, e.keep k, f.keep k⟩
theorem FBats.keep {h h' : Heap} {rs : List RBat} {bs : List Bat} (q : FBats h rs bs) (k : Keeps h h') : FBats h' rs bs := ⟨q.1, fun i r s a b => (q.2 i r s a b).keep k⟩
theorem BatsIs.at {h : Heap} {rs : List RBat} {bs : List Bat} {i : Nat} {r : RBat} (q : BatsIs h rs bs) (hr : rs[i]? = some r) : ∃ b, bs[i]? = some b ∧ BatIs h r b := by
  have hi := (List.getElem?_eq_some_iff.1 hr).1
  rw [q.1] at hi
  exact ⟨_, List.getElem?_eq_getElem hi, q.2 i r _ hr (List.getElem?_eq_getElem hi)⟩
theorem FBats.at {h : Heap} {rs : List RBat} {bs : List Bat} {i : Nat} {r : RBat} (q : FBats h rs bs) (hr : rs[i]? = some r) : ∃ b, bs[i]? = some b ∧ FBat h r b := by
  have hi := (List.getElem?_eq_some_iff.1 hr).1
  rw [q.1] at hi
  exact ⟨_, List.getElem?_eq_getElem hi, q.2 i r _ hr (List.getElem?_eq_getElem hi)⟩
def SmallB (b : Bat) : Prop := b.ten.data.toList.length < 6000 ∧ b.clu.data.toList.length < 6000 ∧ Smalls b.ser
theorem large_spec {h : Heap} {n : Nat} {a : Option Addr} {cp : Nat} (rs : List RSer) (ss : List Ser) (hr : IsRow encSer h (.slice a rs.length cp) rs) (hd : SersIs h rs ss) :
    Makes Tryd.prog 24 [.slice a (rs.length) cp] h n ([]) (fun v _ _ => ∃ q : Int, v = .int .i64 q ∧ 0 ≤ q ∧ q ≤ 40000 ∧ (q < 6000 → Smalls ss)) := by
 refine Makes.free fun hf => ?_
 have hrl : rs.length = ss.length := hd.1
 have hs : SubBut h h ([]) := .refl _ _
 have hn : n ≤ n := Nat.le_refl _
 have hf0 := hf
 refine Makes.of_bodyV (args := [.slice a (rs.length) cp]) (vs := [.slice a (rs.length) cp, undef, undef, undef, undef, undef, undef, undef, undef, undef, undef, undef, undef, undef, undef, undef, undef, undef, undef, undef, undef, undef, undef, undef, undef, undef, undef, undef, undef, undef, undef, undef, undef, undef, undef, undef, undef, undef, undef, undef, undef, undef, undef, undef, undef, undef, undef, undef, undef, undef, undef, undef, undef, undef, undef, undef, undef, undef, undef, undef, undef, undef, undef, undef, undef, undef, undef]) Tryd.func24 rfl rfl ?_
 refine AWp.seq (AWp.rowV (l := _) pok ?_)
 refine sq.c (v := .int .i64 (0)) rfl rfl rfl rfl ?_
 refine sq.e (AWp.seq (AWp.rowV (l := _) pok ?_))
 refine sq.c (v := .int .i64 (0)) rfl rfl rfl rfl ?_
 refine sq.e (AWp.seq (AWp.seq (AWp.rowV (l := _) pok ?_)))
 refine sq.c (v := .int .i64 (0)) rfl rfl rfl rfl ?_
 refine sq.e (AWp.block ?_)
 refine AWp.loopV (fun d vs h2 n3 => ∃ (i q : Int), d = ((rs.length : Nat) - i + 1).toNat ∧ SubBut h h2 ([]) ∧ n ≤ n3 ∧ Free h2 n3 ∧ (0 ≤ i) ∧ (i ≤ (rs.length : Nat)) ∧ (5 * i ≤ q) ∧ (q ≤ 40000) ∧ (q < 6000 → ∀ (j : Nat) s, (j : Int) < i → ss[j]? = some s → Small s) ∧ ∃ y1 : Nat → Value, vs = [.slice a (rs.length) cp, undef, .int .i64 (0), .int .i64 (q), .int .i64 (i), (y1 5), (y1 6), (y1 7), (y1 8), (y1 9), (y1 10), (y1 11), (y1 12), (y1 13), (y1 14), (y1 15), (y1 16), (y1 17), (y1 18), (y1 19), (y1 20), (y1 21), (y1 22), (y1 23), (y1 24), (y1 25), (y1 26), (y1 27), (y1 28), (y1 29), (y1 30), (y1 31), (y1 32), (y1 33), (y1 34), (y1 35), (y1 36), (y1 37), (y1 38), (y1 39), (y1 40), (y1 41), (y1 42), (y1 43), (y1 44), (y1 45), (y1 46), (y1 47), (y1 48), (y1 49), (y1 50), (y1 51), (y1 52), (y1 53), (y1 54), (y1 55), (y1 56), (y1 57), (y1 58), (y1 59), (y1 60), (y1 61), (y1 62), (y1 63), (y1 64), (y1 65), undef]) (((rs.length : Nat) - (0 : Int) + 1).toNat) ⟨0, 0, rfl, hs, hn, hf, (by omega), (by omega), (by omega), (by omega), (fun _ j s hj => by omega), getV [undef, undef, undef, undef, undef, undef, undef, undef, undef, undef, undef, undef, undef, undef, undef, undef, undef, undef, undef, undef, undef, undef, undef, undef, undef, undef, undef, undef, undef, undef, undef, undef, undef, undef, undef, undef, undef, undef, undef, undef, undef, undef, undef, undef, undef, undef, undef, undef, undef, undef, undef, undef, undef, undef, undef, undef, undef, undef, undef, undef, undef, undef, undef, undef, undef, undef], rfl⟩ ?_
 rintro d vs h2 n3 ⟨i, q, rfl, hs, hn, hf, hi0, hi1, hq0, hq1, hsm, y1, rfl⟩
 refine AWp.seq (AWp.seq (AWp.rowV (l := _) pok ?_))
 refine sq.c (v := .int .i64 (i)) rfl rfl rfl rfl ?_
 refine sq.c (v := .slice a (rs.length) cp) rfl rfl rfl rfl ?_
 refine sq.c (v := .int .i64 (((rs.length : Nat) : Int))) rfl rfl (by kernel_rfl) rfl ?_
 refine sq.c (v := .bool (decide (i < (((rs.length : Nat) : Int))))) rfl rfl rfl rfl ?_
 refine sq.c (v := .bool (decide (i < (((rs.length : Nat) : Int))))) rfl rfl rfl rfl ?_
 by_cases c3_3 : i < (((rs.length : Nat) : Int))
 ·rw [decide_eq_true c3_3]
  refine sq.c (v := .int .i64 (q)) (wantT (g := 4) (d := 10) rfl rfl rfl) rfl rfl rfl ?_
  refine sq.c (v := .bool (decide (q < (6000 : Int)))) (wantT (g := 4) (d := 10) rfl rfl rfl) rfl rfl rfl ?_
  refine sq.c (v := .bool (decide (q < (6000 : Int)))) rfl rfl rfl rfl ?_
  refine sq.e ?_
  by_cases c3_6 : q < (6000 : Int)
  ·rw [decide_eq_true c3_6]
   refine AWp.condT rfl rfl ?_
   refine AWp.skip (AWp.seq (AWp.block (AWp.seq (AWp.rowV (l := _) pok ?_))))
   refine sq.c (v := .int .i64 (q)) rfl rfl rfl rfl ?_
   refine sq.c (v := .int .i64 (q + 5)) rfl rfl (okI (wrap_i64 (by omega) (by omega))) rfl ?_
   refine sq.c (v := .slice a (rs.length) cp) rfl rfl rfl rfl ?_
   refine sq.c (v := .int .i64 (i)) rfl rfl rfl rfl ?_
   have i10 : (0 : Int) ≤ (i : Int) := by omega
   obtain ⟨x11, hx_x11⟩ : ∃ x, (rs)[((i : Int)).toNat]? = some x := ⟨_, List.getElem?_eq_getElem (by omega)⟩
   obtain ⟨y_x11, hy_x11, L_x11, M_x11⟩ := hd.at hx_x11
   obtain ⟨v1_x11, v2_x11⟩ := x11
   obtain ⟨a1_x11, c1_x11, rfl⟩ := (show IsRow encLab _ v1_x11 y_x11.1 from L_x11).slice
   obtain ⟨a2_x11, c2_x11, rfl⟩ := (show IsRow encSmp _ v2_x11 y_x11.2 from M_x11).slice
   obtain ⟨b4, o5, cs_b4, ow_b4, ci_b4, ie9, hb6, hc7, hr8⟩ := IsRow.at (P := Tryd.prog) (t := 29) (e := 43) (k := .i64) (by kernel_rfl) (by kernel_rfl) (hr.keep hs) i10 hx_x11
   refine sq.c (v := .pointer (some ⟨b4, o5, none⟩)) rfl rfl ie9 rfl ?_
   refine sq.c (v := .pointer (some ⟨b4, o5 + 1, none⟩)) rfl rfl (by kernel_rfl) rfl ?_
   refine sq.c (v := .slice a2_x11 (y_x11.2.length) c2_x11) rfl rfl (ld1 (P := Tryd.prog) (t := 41) (p := o5 + 1) (v := .slice a2_x11 (y_x11.2.length) c2_x11) (by kernel_rfl) (by kernel_rfl) hb6 (hc7 1 _ rfl)) rfl ?_
   refine sq.c (v := .int .i64 (((y_x11.2.length : Nat) : Int))) rfl rfl (by kernel_rfl) rfl ?_
   refine sq.c (v := .int .i64 (min (6000) (((y_x11.2.length : Nat) : Int)))) rfl rfl (okI (minE _ _)) rfl ?_
   refine sq.c (v := .int .i64 ((q + 5) + (min (6000) (((y_x11.2.length : Nat) : Int))))) rfl rfl (okI (wrap_i64 (by omega) (by omega))) rfl ?_
   refine sq.c (v := .int .i64 ((q + 5) + (min (6000) (((y_x11.2.length : Nat) : Int))))) rfl rfl rfl rfl ?_
   refine sq.e (AWp.seq (AWp.rowV (l := _) pok ?_))
   refine sq.c (v := .int .i64 (0)) rfl rfl rfl rfl ?_
   refine sq.e (AWp.block ?_)
   refine AWp.loopV (fun d vs h13 n14 => ∃ (k q2 : Int), d = ((y_x11.1.length : Nat) - k + 1).toNat ∧ SubBut h h13 ([]) ∧ n ≤ n14 ∧ Free h13 n14 ∧ (0 ≤ k) ∧ (k ≤ (y_x11.1.length : Nat)) ∧ (5 * i + 5 + 5 * k ≤ q2) ∧ (q ≤ q2) ∧ (q2 ≤ 30000) ∧ (q2 < 6000 → y_x11.2.length < 6000) ∧ (q2 < 6000 → ∀ (j : Nat) z, (j : Int) < k → y_x11.1[j]? = some z → z.1.data.toList.length < 6000 ∧ z.2.data.toList.length < 6000) ∧ ∃ y12 : Nat → Value, vs = [.slice a (rs.length) cp, undef, .int .i64 (0), .int .i64 (q2), .int .i64 (i), .int .i64 (k), .int .i64 (i), .slice a (rs.length) cp, .int .i64 (((rs.length : Nat) : Int)), .bool true, .bool true, .int .i64 (q), .bool true, .bool true, (y1 14), (y1 15), .int .i64 (q), .int .i64 (q + 5), .slice a (rs.length) cp, .int .i64 (i), .pointer (some ⟨b4, o5, none⟩), .pointer (some ⟨b4, o5 + 1, none⟩), .slice a2_x11 (y_x11.2.length) c2_x11, .int .i64 (((y_x11.2.length : Nat) : Int)), .int .i64 (min (6000) (((y_x11.2.length : Nat) : Int))), .int .i64 ((q + 5) + (min (6000) (((y_x11.2.length : Nat) : Int)))), (y12 26), (y12 27), (y12 28), (y12 29), (y12 30), (y12 31), (y12 32), (y12 33), (y12 34), (y12 35), (y12 36), (y12 37), (y12 38), (y12 39), (y12 40), (y12 41), (y12 42), (y12 43), (y12 44), (y12 45), (y12 46), (y12 47), (y12 48), (y12 49), (y12 50), (y12 51), (y12 52), (y12 53), (y12 54), (y12 55), (y12 56), (y12 57), (y12 58), (y12 59), (y12 60), (y12 61), (y12 62), (y12 63), (y12 64), (y12 65), undef]) (((y_x11.1.length : Nat) - (0 : Int) + 1).toNat) ⟨0, q + 5 + min 6000 ((y_x11.2.length : Nat) : Int), rfl, hs, hn, hf, (by omega), (by omega), (by omega), (by omega), (by omega), (by omega), (fun _ j s hj => by omega), getV [undef, undef, undef, undef, undef, undef, undef, undef, undef, undef, undef, undef, undef, undef, undef, undef, undef, undef, undef, undef, undef, undef, undef, undef, undef, undef, (y1 26), (y1 27), (y1 28), (y1 29), (y1 30), (y1 31), (y1 32), (y1 33), (y1 34), (y1 35), (y1 36), (y1 37), (y1 38), (y1 39), (y1 40), (y1 41), (y1 42), (y1 43), (y1 44), (y1 45), (y1 46), (y1 47), (y1 48), (y1 49), (y1 50), (y1 51), (y1 52), (y1 53), (y1 54), (y1 55), (y1 56), (y1 57), (y1 58), (y1 59), (y1 60), (y1 61), (y1 62), (y1 63), (y1 64), (y1 65)], rfl⟩ ?_
   rintro d vs h13 n14 ⟨k, q2, rfl, hs, hn, hf, hk0, hk1, hq2, hq4, hq3, hxs, hsm2, y12, rfl⟩
   refine AWp.seq (AWp.seq (AWp.rowV (l := _) pok ?_))
   refine sq.c (v := .int .i64 (k)) rfl rfl rfl rfl ?_
   refine sq.c (v := .slice a (rs.length) cp) rfl rfl rfl rfl ?_
   refine sq.c (v := .int .i64 (i)) rfl rfl rfl rfl ?_
   have i21 : (0 : Int) ≤ (i : Int) := by omega
   obtain ⟨b15, o16, cs_b15, ow_b15, ci_b15, ie20, hb17, hc18, hr19⟩ := IsRow.at (P := Tryd.prog) (t := 29) (e := 43) (k := .i64) (by kernel_rfl) (by kernel_rfl) (hr.keep hs) i21 hx_x11
   refine sq.c (v := .pointer (some ⟨b15, o16, none⟩)) rfl rfl ie20 rfl ?_
   refine sq.c (v := .pointer (some ⟨b15, o16, none⟩)) rfl rfl (by kernel_rfl) rfl ?_
   refine sq.c (v := .slice a1_x11 (y_x11.1.length) c1_x11) rfl rfl (ld1 (P := Tryd.prog) (t := 40) (p := o16 + 0) (v := .slice a1_x11 (y_x11.1.length) c1_x11) (by kernel_rfl) (by kernel_rfl) hb17 (hc18 0 _ rfl)) rfl ?_
   refine sq.c (v := .int .i64 (((y_x11.1.length : Nat) : Int))) rfl rfl (by kernel_rfl) rfl ?_
   refine sq.c (v := .bool (decide (k < (((y_x11.1.length : Nat) : Int))))) rfl rfl rfl rfl ?_
   refine sq.c (v := .bool (decide (k < (((y_x11.1.length : Nat) : Int))))) rfl rfl rfl rfl ?_
   by_cases c7_7 : k < (((y_x11.1.length : Nat) : Int))
   ·rw [decide_eq_true c7_7]
    refine sq.c (v := .int .i64 (q2)) (wantT (g := 8) (d := 34) rfl rfl rfl) rfl rfl rfl ?_
    refine sq.c (v := .bool (decide (q2 < (6000 : Int)))) (wantT (g := 8) (d := 34) rfl rfl rfl) rfl rfl rfl ?_
    refine sq.c (v := .bool (decide (q2 < (6000 : Int)))) rfl rfl rfl rfl ?_
    refine sq.e ?_
    by_cases c7_10 : q2 < (6000 : Int)
    ·rw [decide_eq_true c7_10]
     refine AWp.condT rfl rfl ?_
     refine AWp.skip (AWp.seq (AWp.block ?_))
     refine AWp.anyV pok [] [0, 1, 2, 3, 4, 5, 6, 7, 8, 9, 10, 11, 12, 13, 14, 15, 16, 17, 18, 19, 20, 21, 22, 23, 24, 25, 26] (by kernel_rfl) (by kernel_rfl) rfl (fun x fr fr' h n hd _ q => ⟨hd ▸ q.1, q.2⟩) ?_
     refine dq.c (v := .int .i64 (q2)) rfl (by kernel_rfl) rfl rfl rfl rfl ?_
     refine dq.c (v := .int .i64 (q2 + 5)) rfl (by kernel_rfl) rfl rfl (okI (wrap_i64 (by omega) (by omega))) rfl ?_
     refine dq.c (v := .slice a (rs.length) cp) rfl (by kernel_rfl) rfl rfl rfl rfl ?_
     refine dq.c (v := .int .i64 (i)) rfl (by kernel_rfl) rfl rfl rfl rfl ?_
     have i28 : (0 : Int) ≤ (i : Int) := by omega
     obtain ⟨b22, o23, cs_b22, ow_b22, ci_b22, ie27, hb24, hc25, hr26⟩ := IsRow.at (P := Tryd.prog) (t := 29) (e := 43) (k := .i64) (by kernel_rfl) (by kernel_rfl) (hr.keep hs) i28 hx_x11
     refine dq.c (v := .pointer (some ⟨b22, o23, none⟩)) rfl (by kernel_rfl) rfl rfl ie27 rfl ?_
     refine dq.c (v := .pointer (some ⟨b22, o23, none⟩)) rfl (by kernel_rfl) rfl rfl (by kernel_rfl) rfl ?_
     refine dq.g (v := .slice a1_x11 (y_x11.1.length) c1_x11) rfl (by kernel_rfl) rfl rfl (ld1 (P := Tryd.prog) (t := 40) (p := o23 + 0) (v := .slice a1_x11 (y_x11.1.length) c1_x11) (by kernel_rfl) (by kernel_rfl) hb24 (hc25 0 _ rfl)) rfl ?_
     refine dq.c (v := .int .i64 (k)) rfl (by kernel_rfl) rfl rfl rfl rfl ?_
     have i35 : (0 : Int) ≤ (k : Int) := by omega
     obtain ⟨x36, hx_x36⟩ : ∃ x, (y_x11.1)[((k : Int)).toNat]? = some x := ⟨_, List.getElem?_eq_getElem (by omega)⟩
     obtain ⟨b29, o30, cs_b29, ow_b29, ci_b29, ie34, hb31, hc32, hr33⟩ := IsRow.at (P := Tryd.prog) (t := 40) (e := 61) (k := .i64) (by kernel_rfl) (by kernel_rfl) (L_x11.keep hs) i35 hx_x36
     refine dq.c (v := .pointer (some ⟨b29, o30, none⟩)) rfl (by kernel_rfl) rfl rfl ie34 rfl ?_
     refine dq.c (v := .pointer (some ⟨b29, o30, none⟩)) rfl (by kernel_rfl) rfl rfl (by kernel_rfl) rfl ?_
     refine dq.g (v := .string (x36.1)) rfl (by kernel_rfl) rfl rfl (ld1 (P := Tryd.prog) (t := 9) (p := o30 + 0) (v := .string (x36.1)) (by kernel_rfl) (by kernel_rfl) hb31 (hc32 0 _ rfl)) rfl ?_
     refine dq.c (v := .int .i64 ((((x36.1).data.toList.length : Nat) : Int))) rfl (by kernel_rfl) rfl rfl (by kernel_rfl) rfl ?_
     refine dq.c (v := .int .i64 (min (6000) ((((x36.1).data.toList.length : Nat) : Int)))) rfl (by kernel_rfl) rfl rfl (okI (minE _ _)) rfl ?_
     refine dq.c (v := .int .i64 ((q2 + 5) + (min (6000) ((((x36.1).data.toList.length : Nat) : Int))))) rfl (by kernel_rfl) rfl rfl (okI (wrap_i64 (by omega) (by omega))) rfl ?_
     refine dq.c (v := .slice a (rs.length) cp) rfl (by kernel_rfl) rfl rfl rfl rfl ?_
     refine dq.c (v := .int .i64 (i)) rfl (by kernel_rfl) rfl rfl rfl rfl ?_
     have i43 : (0 : Int) ≤ (i : Int) := by omega
     obtain ⟨b37, o38, cs_b37, ow_b37, ci_b37, ie42, hb39, hc40, hr41⟩ := IsRow.at (P := Tryd.prog) (t := 29) (e := 43) (k := .i64) (by kernel_rfl) (by kernel_rfl) (hr.keep hs) i43 hx_x11
     refine dq.c (v := .pointer (some ⟨b37, o38, none⟩)) rfl (by kernel_rfl) rfl rfl ie42 rfl ?_
     refine dq.c (v := .pointer (some ⟨b37, o38, none⟩)) rfl (by kernel_rfl) rfl rfl (by kernel_rfl) rfl ?_
     refine dq.g (v := .slice a1_x11 (y_x11.1.length) c1_x11) rfl (by kernel_rfl) rfl rfl (ld1 (P := Tryd.prog) (t := 40) (p := o38 + 0) (v := .slice a1_x11 (y_x11.1.length) c1_x11) (by kernel_rfl) (by kernel_rfl) hb39 (hc40 0 _ rfl)) rfl ?_
     refine dq.c (v := .int .i64 (k)) rfl (by kernel_rfl) rfl rfl rfl rfl ?_
     have i50 : (0 : Int) ≤ (k : Int) := by omega
     obtain ⟨b44, o45, cs_b44, ow_b44, ci_b44, ie49, hb46, hc47, hr48⟩ := IsRow.at (P := Tryd.prog) (t := 40) (e := 61) (k := .i64) (by kernel_rfl) (by kernel_rfl) (L_x11.keep hs) i50 hx_x36
     refine dq.c (v := .pointer (some ⟨b44, o45, none⟩)) rfl (by kernel_rfl) rfl rfl ie49 rfl ?_
     refine dq.c (v := .pointer (some ⟨b44, o45 + 1, none⟩)) rfl (by kernel_rfl) rfl rfl (by kernel_rfl) rfl ?_
     refine dq.g (v := .string (x36.2)) rfl (by kernel_rfl) rfl rfl (ld1 (P := Tryd.prog) (t := 9) (p := o45 + 1) (v := .string (x36.2)) (by kernel_rfl) (by kernel_rfl) hb46 (hc47 1 _ rfl)) rfl ?_
     refine dq.c (v := .int .i64 ((((x36.2).data.toList.length : Nat) : Int))) rfl (by kernel_rfl) rfl rfl (by kernel_rfl) rfl ?_
     refine dq.c (v := .int .i64 (min (6000) ((((x36.2).data.toList.length : Nat) : Int)))) rfl (by kernel_rfl) rfl rfl (okI (minE _ _)) rfl ?_
     refine dq.c (v := .int .i64 (((q2 + 5) + (min (6000) ((((x36.1).data.toList.length : Nat) : Int)))) + (min (6000) ((((x36.2).data.toList.length : Nat) : Int))))) rfl (by kernel_rfl) rfl rfl (okI (wrap_i64 (by omega) (by omega))) rfl ?_
     refine dq.c (v := .int .i64 (((q2 + 5) + (min (6000) ((((x36.1).data.toList.length : Nat) : Int)))) + (min (6000) ((((x36.2).data.toList.length : Nat) : Int))))) rfl (by kernel_rfl) rfl rfl rfl rfl ?_
     refine dq.e (AWp.rowV (l := _) pok ?_)
     refine sq.c (v := .int .i64 (k)) rfl rfl rfl rfl ?_
     refine sq.c (v := .int .i64 (k + 1)) rfl rfl (okI (wrap_i64 (by omega) (by omega))) rfl ?_
     refine sq.c (v := .int .i64 (k + 1)) rfl rfl rfl rfl ?_
     refine sq.e ?_
     have hsm3 : q2 + 5 + min 6000 ((x36.1.data.toList.length : Nat) : Int) + min 6000 ((x36.2.data.toList.length : Nat) : Int) < 6000 → ∀ (j : Nat) z, (j : Int) < k + 1 → y_x11.1[j]? = some z → z.1.data.toList.length < 6000 ∧ z.2.data.toList.length < 6000 := by
      intro hq j z hj hz
      by_cases e : j = k.toNat
      ·subst e; rw [hx_x36] at hz; cases hz; omega
      ·exact hsm2 (by omega) j z (by omega) hz
     refine ⟨_, _, rfl, by omega, k + 1, q2 + 5 + min 6000 ((x36.1.data.toList.length : Nat) : Int) + min 6000 ((x36.2.data.toList.length : Nat) : Int), rfl, hs, hn, hf, (by omega), (by omega), (by omega), (by omega), (by omega), (by omega), (hsm3), getV [undef, undef, undef, undef, undef, undef, undef, undef, undef, undef, undef, undef, undef, undef, undef, undef, undef, undef, undef, undef, undef, undef, undef, undef, undef, undef, .int .i64 (k), .slice a (rs.length) cp, .int .i64 (i), .pointer (some ⟨b15, o16, none⟩), .pointer (some ⟨b15, o16, none⟩), .slice a1_x11 (y_x11.1.length) c1_x11, .int .i64 (((y_x11.1.length : Nat) : Int)), .bool true, .bool true, .int .i64 (q2), .bool true, .bool true, .int .i64 (k), .int .i64 (k + 1), .int .i64 (q2), .int .i64 (q2 + 5), .slice a (rs.length) cp, .int .i64 (i), .pointer (some ⟨b22, o23, none⟩), .pointer (some ⟨b22, o23, none⟩), .slice a1_x11 (y_x11.1.length) c1_x11, .int .i64 (k), .pointer (some ⟨b29, o30, none⟩), .pointer (some ⟨b29, o30, none⟩), .string (x36.1), .int .i64 ((((x36.1).data.toList.length : Nat) : Int)), .int .i64 (min (6000) ((((x36.1).data.toList.length : Nat) : Int))), .int .i64 ((q2 + 5) + (min (6000) ((((x36.1).data.toList.length : Nat) : Int)))), .slice a (rs.length) cp, .int .i64 (i), .pointer (some ⟨b37, o38, none⟩), .pointer (some ⟨b37, o38, none⟩), .slice a1_x11 (y_x11.1.length) c1_x11, .int .i64 (k), .pointer (some ⟨b44, o45, none⟩), .pointer (some ⟨b44, o45 + 1, none⟩), .string (x36.2), .int .i64 ((((x36.2).data.toList.length : Nat) : Int)), .int .i64 (min (6000) ((((x36.2).data.toList.length : Nat) : Int))), .int .i64 (((q2 + 5) + (min (6000) ((((x36.1).data.toList.length : Nat) : Int)))) + (min (6000) ((((x36.2).data.toList.length : Nat) : Int))))], rfl⟩
    ·rw [decide_eq_false c7_10]
     refine AWp.condF rfl rfl ?_
     refine AWp.exit ?_
     refine AWp.rowV (l := _) pok ?_
     refine sq.c (v := .int .i64 (i)) rfl rfl rfl rfl ?_
     refine sq.c (v := .int .i64 (i + 1)) rfl rfl (okI (wrap_i64 (by omega) (by omega))) rfl ?_
     refine sq.c (v := .int .i64 (i + 1)) rfl rfl rfl rfl ?_
     refine sq.e ?_
     have hsm4 : q2 < 6000 → ∀ (j : Nat) s, (j : Int) < i + 1 → ss[j]? = some s → Small s := by
      intro hq j s hj hs2
      by_cases e : j = i.toNat
      ·subst e
       rw [hy_x11] at hs2
       cases hs2
       refine ⟨by omega, by omega, fun z hz => ?_⟩
       obtain ⟨m, hm⟩ := List.getElem?_of_mem hz
       have hml := (List.getElem?_eq_some_iff.1 hm).1
       exact hsm2 hq m z (by omega) hm
      ·exact hsm (by omega) j s (by omega) hs2
     refine ⟨_, _, rfl, by omega, i + 1, q2, rfl, hs, hn, hf, (by omega), (by omega), (by omega), (by omega), (hsm4), getV [undef, undef, undef, undef, undef, .int .i64 (k), .int .i64 (i), .slice a (rs.length) cp, .int .i64 (((rs.length : Nat) : Int)), .bool true, .bool true, .int .i64 (q), .bool true, .bool true, .int .i64 (i), .int .i64 (i + 1), .int .i64 (q), .int .i64 (q + 5), .slice a (rs.length) cp, .int .i64 (i), .pointer (some ⟨b4, o5, none⟩), .pointer (some ⟨b4, o5 + 1, none⟩), .slice a2_x11 (y_x11.2.length) c2_x11, .int .i64 (((y_x11.2.length : Nat) : Int)), .int .i64 (min (6000) (((y_x11.2.length : Nat) : Int))), .int .i64 ((q + 5) + (min (6000) (((y_x11.2.length : Nat) : Int)))), .int .i64 (k), .slice a (rs.length) cp, .int .i64 (i), .pointer (some ⟨b15, o16, none⟩), .pointer (some ⟨b15, o16, none⟩), .slice a1_x11 (y_x11.1.length) c1_x11, .int .i64 (((y_x11.1.length : Nat) : Int)), .bool true, .bool true, .int .i64 (q2), .bool false, .bool false, (y12 38), (y12 39), (y12 40), (y12 41), (y12 42), (y12 43), (y12 44), (y12 45), (y12 46), (y12 47), (y12 48), (y12 49), (y12 50), (y12 51), (y12 52), (y12 53), (y12 54), (y12 55), (y12 56), (y12 57), (y12 58), (y12 59), (y12 60), (y12 61), (y12 62), (y12 63), (y12 64), (y12 65)], rfl⟩
   ·rw [decide_eq_false c7_7]
    refine sq.s (wantF (g := 8) (d := 34) rfl rfl rfl) rfl ?_
    refine sq.s (wantF (g := 8) (d := 34) rfl rfl rfl) rfl ?_
    refine sq.c (v := .bool false) rfl rfl rfl rfl ?_
    refine sq.e ?_
    refine AWp.condF rfl rfl ?_
    refine AWp.exit ?_
    refine AWp.rowV (l := _) pok ?_
    refine sq.c (v := .int .i64 (i)) rfl rfl rfl rfl ?_
    refine sq.c (v := .int .i64 (i + 1)) rfl rfl (okI (wrap_i64 (by omega) (by omega))) rfl ?_
    refine sq.c (v := .int .i64 (i + 1)) rfl rfl rfl rfl ?_
    refine sq.e ?_
    have hsm4 : q2 < 6000 → ∀ (j : Nat) s, (j : Int) < i + 1 → ss[j]? = some s → Small s := by
     intro hq j s hj hs2
     by_cases e : j = i.toNat
     ·subst e
      rw [hy_x11] at hs2
      cases hs2
      refine ⟨by omega, by omega, fun z hz => ?_⟩
      obtain ⟨m, hm⟩ := List.getElem?_of_mem hz
      have hml := (List.getElem?_eq_some_iff.1 hm).1
      exact hsm2 hq m z (by omega) hm
     ·exact hsm (by omega) j s (by omega) hs2
    refine ⟨_, _, rfl, by omega, i + 1, q2, rfl, hs, hn, hf, (by omega), (by omega), (by omega), (by omega), (hsm4), getV [undef, undef, undef, undef, undef, .int .i64 (k), .int .i64 (i), .slice a (rs.length) cp, .int .i64 (((rs.length : Nat) : Int)), .bool true, .bool true, .int .i64 (q), .bool true, .bool true, .int .i64 (i), .int .i64 (i + 1), .int .i64 (q), .int .i64 (q + 5), .slice a (rs.length) cp, .int .i64 (i), .pointer (some ⟨b4, o5, none⟩), .pointer (some ⟨b4, o5 + 1, none⟩), .slice a2_x11 (y_x11.2.length) c2_x11, .int .i64 (((y_x11.2.length : Nat) : Int)), .int .i64 (min (6000) (((y_x11.2.length : Nat) : Int))), .int .i64 ((q + 5) + (min (6000) (((y_x11.2.length : Nat) : Int)))), .int .i64 (k), .slice a (rs.length) cp, .int .i64 (i), .pointer (some ⟨b15, o16, none⟩), .pointer (some ⟨b15, o16, none⟩), .slice a1_x11 (y_x11.1.length) c1_x11, .int .i64 (((y_x11.1.length : Nat) : Int)), .bool false, .bool false, undef, undef, .bool false, (y12 38), (y12 39), (y12 40), (y12 41), (y12 42), (y12 43), (y12 44), (y12 45), (y12 46), (y12 47), (y12 48), (y12 49), (y12 50), (y12 51), (y12 52), (y12 53), (y12 54), (y12 55), (y12 56), (y12 57), (y12 58), (y12 59), (y12 60), (y12 61), (y12 62), (y12 63), (y12 64), (y12 65)], rfl⟩
  ·rw [decide_eq_false c3_6]
   refine AWp.condF rfl rfl ?_
   refine AWp.exit ?_
   refine AWp.seq (AWp.rowV (l := _) pok ?_)
   refine sq.c (v := .int .i64 (q)) rfl rfl rfl rfl ?_
   refine sq.c (v := .int .i64 (q)) rfl rfl rfl rfl ?_
   refine sq.e ?_
   refine AWp.ret ?_
   refine ⟨rfl, [.int .i64 (q)], rfl, .int .i64 (q), rfl, hs, hn, ?_⟩
   refine ⟨q, rfl, by omega, hq1, fun hq => ?_⟩
   refine ⟨by omega, fun s hs2 => ?_⟩
   obtain ⟨j, hj⟩ := List.getElem?_of_mem hs2
   have hjl := (List.getElem?_eq_some_iff.1 hj).1
   exact hsm hq j s (by omega) hj
 ·rw [decide_eq_false c3_3]
  refine sq.s (wantF (g := 4) (d := 10) rfl rfl rfl) rfl ?_
  refine sq.s (wantF (g := 4) (d := 10) rfl rfl rfl) rfl ?_
  refine sq.c (v := .bool false) rfl rfl rfl rfl ?_
  refine sq.e ?_
  refine AWp.condF rfl rfl ?_
  refine AWp.exit ?_
  refine AWp.seq (AWp.rowV (l := _) pok ?_)
  refine sq.c (v := .int .i64 (q)) rfl rfl rfl rfl ?_
  refine sq.c (v := .int .i64 (q)) rfl rfl rfl rfl ?_
  refine sq.e ?_
  refine AWp.ret ?_
  refine ⟨rfl, [.int .i64 (q)], rfl, .int .i64 (q), rfl, hs, hn, ?_⟩
  refine ⟨q, rfl, by omega, hq1, fun hq => ?_⟩
  refine ⟨by omega, fun s hs2 => ?_⟩
  obtain ⟨j, hj⟩ := List.getElem?_of_mem hs2
  have hjl := (List.getElem?_eq_some_iff.1 hj).1
  exact hsm hq j s (by omega) hj
theorem long_spec {h : Heap} {n : Nat} {a : Option Addr} {cp : Nat} (rs : List RBat) (bs : List Bat) (hr : IsRow encBat h (.slice a rs.length cp) rs) (hd : BatsIs h rs bs) (hlen : rs.length < 9223372036854775808) :
    Makes Tryd.prog 9 [.slice a (rs.length) cp] h n ([]) (fun v _ _ => ∃ z, v = .bool z ∧ (z = false → bs.length ≤ 60 ∧ ∀ b ∈ bs, SmallB b)) := by
 refine Makes.free fun hf => ?_
 have hrl : rs.length = bs.length := hd.1
 have hs : SubBut h h ([]) := .refl _ _
 have hn : n ≤ n := Nat.le_refl _
 have hf0 := hf
 refine Makes.of_bodyV (args := [.slice a (rs.length) cp]) (vs := [.slice a (rs.length) cp, undef, undef, undef, undef, undef, undef, undef, undef, undef, undef, undef, undef, undef, undef, undef, undef, undef, undef, undef, undef, undef, undef, undef, undef, undef, undef, undef, undef, undef, undef, undef, undef, undef, undef, undef, undef, undef, undef, undef, undef, undef, undef, undef, undef, undef, undef]) Tryd.func9 rfl rfl ?_
 refine AWp.seq (AWp.rowV (l := _) pok ?_)
 refine sq.c (v := .bool false) rfl rfl rfl rfl ?_
 refine sq.e (AWp.seq (AWp.rowV (l := _) pok ?_))
 refine sq.c (v := .int .i64 (0)) rfl rfl rfl rfl ?_
 refine sq.e (AWp.seq (AWp.seq (AWp.rowV (l := _) pok ?_)))
 refine sq.c (v := .int .i64 (0)) rfl rfl rfl rfl ?_
 refine sq.e (AWp.block ?_)
 refine AWp.loopV (fun d vs h2 n3 => ∃ (i q : Int), d = ((rs.length : Nat) - i + 1).toNat ∧ SubBut h h2 ([]) ∧ n ≤ n3 ∧ Free h2 n3 ∧ (0 ≤ i) ∧ (i ≤ (rs.length : Nat)) ∧ (0 ≤ q) ∧ (q ≤ 60000) ∧ (q < 6000 → ∀ (j : Nat) b, (j : Int) < i → bs[j]? = some b → SmallB b) ∧ ∃ y1 : Nat → Value, vs = [.slice a (rs.length) cp, undef, .bool false, .int .i64 (q), .int .i64 (i), (y1 5), (y1 6), (y1 7), (y1 8), (y1 9), (y1 10), (y1 11), (y1 12), (y1 13), (y1 14), (y1 15), (y1 16), (y1 17), (y1 18), (y1 19), (y1 20), (y1 21), (y1 22), (y1 23), (y1 24), (y1 25), (y1 26), (y1 27), (y1 28), (y1 29), (y1 30), (y1 31), (y1 32), (y1 33), (y1 34), (y1 35), (y1 36), (y1 37), (y1 38), (y1 39), undef, undef, undef, undef, undef, undef, undef]) (((rs.length : Nat) - (0 : Int) + 1).toNat) ⟨0, 0, rfl, hs, hn, hf, (by omega), (by omega), (by omega), (by omega), (fun _ j s hj => by omega), getV [undef, undef, undef, undef, undef, undef, undef, undef, undef, undef, undef, undef, undef, undef, undef, undef, undef, undef, undef, undef, undef, undef, undef, undef, undef, undef, undef, undef, undef, undef, undef, undef, undef, undef, undef, undef, undef, undef, undef, undef], rfl⟩ ?_
 rintro d vs h2 n3 ⟨i, q, rfl, hs, hn, hf, hi0, hi1, hq0, hq1, hsm, y1, rfl⟩
 refine AWp.seq (AWp.seq (AWp.rowV (l := _) pok ?_))
 refine sq.c (v := .int .i64 (i)) rfl rfl rfl rfl ?_
 refine sq.c (v := .slice a (rs.length) cp) rfl rfl rfl rfl ?_
 refine sq.c (v := .int .i64 (((rs.length : Nat) : Int))) rfl rfl (by kernel_rfl) rfl ?_
 refine sq.c (v := .bool (decide (i < (((rs.length : Nat) : Int))))) rfl rfl rfl rfl ?_
 refine sq.c (v := .bool (decide (i < (((rs.length : Nat) : Int))))) rfl rfl rfl rfl ?_
 by_cases c3_3 : i < (((rs.length : Nat) : Int))
 ·rw [decide_eq_true c3_3]
  refine sq.c (v := .int .i64 (q)) (wantT (g := 4) (d := 9) rfl rfl rfl) rfl rfl rfl ?_
  refine sq.c (v := .bool (decide (q < (6000 : Int)))) (wantT (g := 4) (d := 9) rfl rfl rfl) rfl rfl rfl ?_
  refine sq.c (v := .bool (decide (q < (6000 : Int)))) rfl rfl rfl rfl ?_
  refine sq.e ?_
  by_cases c3_6 : q < (6000 : Int)
  ·rw [decide_eq_true c3_6]
   refine AWp.condT rfl rfl ?_
   refine AWp.skip (AWp.seq (AWp.block ?_))
   refine AWp.anyV pok [] [0, 1, 2, 3, 4, 5, 6, 7, 8, 9, 10, 11, 12, 13, 14, 15, 16, 17, 18, 19, 20, 21, 22, 23, 24, 25] (by kernel_rfl) (by kernel_rfl) rfl (fun x fr fr' h n hd _ q => ⟨hd ▸ q.1, q.2⟩) ?_
   refine dq.c (v := .int .i64 (q)) rfl (by kernel_rfl) rfl rfl rfl rfl ?_
   refine dq.c (v := .int .i64 (q + 5)) rfl (by kernel_rfl) rfl rfl (okI (wrap_i64 (by omega) (by omega))) rfl ?_
   refine dq.c (v := .slice a (rs.length) cp) rfl (by kernel_rfl) rfl rfl rfl rfl ?_
   refine dq.c (v := .int .i64 (i)) rfl (by kernel_rfl) rfl rfl rfl rfl ?_
   have i10 : (0 : Int) ≤ (i : Int) := by omega
   obtain ⟨x11, hx_x11⟩ : ∃ x, (rs)[((i : Int)).toNat]? = some x := ⟨_, List.getElem?_eq_getElem (by omega)⟩
   obtain ⟨y_x11, hy_x11, hb_x11⟩ := hd.at hx_x11
   obtain ⟨t_x11, c_x11, e_x11, v_x11⟩ := x11
   obtain ⟨rfl, rfl, rfl, rs_x11, R_x11, D_x11⟩ := hb_x11
   obtain ⟨a_x11, c_x11, rfl⟩ := (show IsRow encSer _ v_x11 rs_x11 from R_x11).slice
   obtain ⟨b4, o5, cs_b4, ow_b4, ci_b4, ie9, hb6, hc7, hr8⟩ := IsRow.at (P := Tryd.prog) (t := 22) (e := 31) (k := .i64) (by kernel_rfl) (by kernel_rfl) (hr.keep hs) i10 hx_x11
   refine dq.c (v := .pointer (some ⟨b4, o5, none⟩)) rfl (by kernel_rfl) rfl rfl ie9 rfl ?_
   refine dq.c (v := .pointer (some ⟨b4, o5, none⟩)) rfl (by kernel_rfl) rfl rfl (by kernel_rfl) rfl ?_
   refine dq.g (v := .string (y_x11.ten)) rfl (by kernel_rfl) rfl rfl (ld1 (P := Tryd.prog) (t := 9) (p := o5 + 0) (v := .string (y_x11.ten)) (by kernel_rfl) (by kernel_rfl) hb6 (hc7 0 _ rfl)) rfl ?_
   refine dq.c (v := .int .i64 ((((y_x11.ten).data.toList.length : Nat) : Int))) rfl (by kernel_rfl) rfl rfl (by kernel_rfl) rfl ?_
   refine dq.c (v := .int .i64 (min (6000) ((((y_x11.ten).data.toList.length : Nat) : Int)))) rfl (by kernel_rfl) rfl rfl (okI (minE _ _)) rfl ?_
   refine dq.c (v := .int .i64 ((q + 5) + (min (6000) ((((y_x11.ten).data.toList.length : Nat) : Int))))) rfl (by kernel_rfl) rfl rfl (okI (wrap_i64 (by omega) (by omega))) rfl ?_
   refine dq.c (v := .slice a (rs.length) cp) rfl (by kernel_rfl) rfl rfl rfl rfl ?_
   refine dq.c (v := .int .i64 (i)) rfl (by kernel_rfl) rfl rfl rfl rfl ?_
   have i18 : (0 : Int) ≤ (i : Int) := by omega
   obtain ⟨b12, o13, cs_b12, ow_b12, ci_b12, ie17, hb14, hc15, hr16⟩ := IsRow.at (P := Tryd.prog) (t := 22) (e := 31) (k := .i64) (by kernel_rfl) (by kernel_rfl) (hr.keep hs) i18 hx_x11
   refine dq.c (v := .pointer (some ⟨b12, o13, none⟩)) rfl (by kernel_rfl) rfl rfl ie17 rfl ?_
   refine dq.c (v := .pointer (some ⟨b12, o13 + 1, none⟩)) rfl (by kernel_rfl) rfl rfl (by kernel_rfl) rfl ?_
   refine dq.g (v := .string (y_x11.clu)) rfl (by kernel_rfl) rfl rfl (ld1 (P := Tryd.prog) (t := 9) (p := o13 + 1) (v := .string (y_x11.clu)) (by kernel_rfl) (by kernel_rfl) hb14 (hc15 1 _ rfl)) rfl ?_
   refine dq.c (v := .int .i64 ((((y_x11.clu).data.toList.length : Nat) : Int))) rfl (by kernel_rfl) rfl rfl (by kernel_rfl) rfl ?_
   refine dq.c (v := .int .i64 (min (6000) ((((y_x11.clu).data.toList.length : Nat) : Int)))) rfl (by kernel_rfl) rfl rfl (okI (minE _ _)) rfl ?_
   refine dq.c (v := .int .i64 (((q + 5) + (min (6000) ((((y_x11.ten).data.toList.length : Nat) : Int)))) + (min (6000) ((((y_x11.clu).data.toList.length : Nat) : Int))))) rfl (by kernel_rfl) rfl rfl (okI (wrap_i64 (by omega) (by omega))) rfl ?_
   refine dq.c (v := .slice a (rs.length) cp) rfl (by kernel_rfl) rfl rfl rfl rfl ?_
   refine dq.c (v := .int .i64 (i)) rfl (by kernel_rfl) rfl rfl rfl rfl ?_
   have i25 : (0 : Int) ≤ (i : Int) := by omega
   obtain ⟨b19, o20, cs_b19, ow_b19, ci_b19, ie24, hb21, hc22, hr23⟩ := IsRow.at (P := Tryd.prog) (t := 22) (e := 31) (k := .i64) (by kernel_rfl) (by kernel_rfl) (hr.keep hs) i25 hx_x11
   refine dq.c (v := .pointer (some ⟨b19, o20, none⟩)) rfl (by kernel_rfl) rfl rfl ie24 rfl ?_
   refine dq.c (v := .pointer (some ⟨b19, o20 + 3, none⟩)) rfl (by kernel_rfl) rfl rfl (by kernel_rfl) rfl ?_
   refine dq.g (v := .slice a_x11 (rs_x11.length) c_x11) rfl (by kernel_rfl) rfl rfl (ld1 (P := Tryd.prog) (t := 29) (p := o20 + 3) (v := .slice a_x11 (rs_x11.length) c_x11) (by kernel_rfl) (by kernel_rfl) hb21 (hc22 3 _ rfl)) rfl ?_
   refine dq.k rfl (by kernel_rfl) rfl (CallsF.fn rfl (by kernel_rfl) rfl rfl) (large_spec _ _ (R_x11.keep hs) (D_x11.keep hs)) (by simp) ?_
   rintro _ h26 n27 ⟨z_lg, rfl, hz0_lg, hz1_lg, hz_lg⟩ s28 hn2 hf
   refine dq.w ?_
   have hs := hs.trans s28
   have hn := Nat.le_trans hn hn2
   refine dq.c (v := .int .i64 ((((q + 5) + (min (6000) ((((y_x11.ten).data.toList.length : Nat) : Int)))) + (min (6000) ((((y_x11.clu).data.toList.length : Nat) : Int)))) + z_lg)) rfl (by kernel_rfl) rfl rfl (okI (wrap_i64 (by omega) (by omega))) rfl ?_
   refine dq.c (v := .int .i64 ((((q + 5) + (min (6000) ((((y_x11.ten).data.toList.length : Nat) : Int)))) + (min (6000) ((((y_x11.clu).data.toList.length : Nat) : Int)))) + z_lg)) rfl (by kernel_rfl) rfl rfl rfl rfl ?_
   refine dq.e (AWp.rowV (l := _) pok ?_)
   refine sq.c (v := .int .i64 (i)) rfl rfl rfl rfl ?_
   refine sq.c (v := .int .i64 (i + 1)) rfl rfl (okI (wrap_i64 (by omega) (by omega))) rfl ?_
   refine sq.c (v := .int .i64 (i + 1)) rfl rfl rfl rfl ?_
   refine sq.e ?_
   have hsm4 : q + 5 + min 6000 ((y_x11.ten.data.toList.length : Nat) : Int) + min 6000 ((y_x11.clu.data.toList.length : Nat) : Int) + z_lg < 6000 → ∀ (j : Nat) b, (j : Int) < i + 1 → bs[j]? = some b → SmallB b := by
    intro hq j b hj hb
    by_cases e : j = i.toNat
    ·subst e
     rw [hy_x11] at hb
     cases hb
     exact ⟨by omega, by omega, hz_lg (by omega)⟩
    ·exact hsm (by omega) j b (by omega) hb
   refine ⟨_, _, rfl, by omega, i + 1, q + 5 + min 6000 ((y_x11.ten.data.toList.length : Nat) : Int) + min 6000 ((y_x11.clu.data.toList.length : Nat) : Int) + z_lg, rfl, hs, hn, hf, (by omega), (by omega), (by omega), (by omega), (hsm4), getV [undef, undef, undef, undef, undef, .int .i64 (i), .slice a (rs.length) cp, .int .i64 (((rs.length : Nat) : Int)), .bool true, .bool true, .int .i64 (q), .bool true, .bool true, .int .i64 (i), .int .i64 (i + 1), .int .i64 (q), .int .i64 (q + 5), .slice a (rs.length) cp, .int .i64 (i), .pointer (some ⟨b4, o5, none⟩), .pointer (some ⟨b4, o5, none⟩), .string (y_x11.ten), .int .i64 ((((y_x11.ten).data.toList.length : Nat) : Int)), .int .i64 (min (6000) ((((y_x11.ten).data.toList.length : Nat) : Int))), .int .i64 ((q + 5) + (min (6000) ((((y_x11.ten).data.toList.length : Nat) : Int)))), .slice a (rs.length) cp, .int .i64 (i), .pointer (some ⟨b12, o13, none⟩), .pointer (some ⟨b12, o13 + 1, none⟩), .string (y_x11.clu), .int .i64 ((((y_x11.clu).data.toList.length : Nat) : Int)), .int .i64 (min (6000) ((((y_x11.clu).data.toList.length : Nat) : Int))), .int .i64 (((q + 5) + (min (6000) ((((y_x11.ten).data.toList.length : Nat) : Int)))) + (min (6000) ((((y_x11.clu).data.toList.length : Nat) : Int)))), .slice a (rs.length) cp, .int .i64 (i), .pointer (some ⟨b19, o20, none⟩), .pointer (some ⟨b19, o20 + 3, none⟩), .slice a_x11 (rs_x11.length) c_x11, .int .i64 (z_lg), .int .i64 ((((q + 5) + (min (6000) ((((y_x11.ten).data.toList.length : Nat) : Int)))) + (min (6000) ((((y_x11.clu).data.toList.length : Nat) : Int)))) + z_lg)], rfl⟩
  ·rw [decide_eq_false c3_6]
   refine AWp.condF rfl rfl ?_
   refine AWp.exit ?_
   refine AWp.seq (AWp.rowV (l := _) pok ?_)
   refine sq.c (v := .int .i64 (q)) rfl rfl rfl rfl ?_
   refine sq.c (v := .bool (decide ((6000 : Int) ≤ q))) rfl rfl rfl rfl ?_
   refine sq.c (v := .bool (decide ((6000 : Int) ≤ q))) rfl rfl rfl rfl ?_
   by_cases c6_1 : (6000 : Int) ≤ q
   ·rw [decide_eq_true c6_1]
    refine sq.s (wantF (g := 2) (d := 42) rfl rfl rfl) rfl ?_
    refine sq.s (wantF (g := 2) (d := 42) rfl rfl rfl) rfl ?_
    refine sq.s (wantF (g := 2) (d := 42) rfl rfl rfl) rfl ?_
    refine sq.c (v := .bool true) rfl rfl rfl rfl ?_
    refine sq.c (v := .bool true) rfl rfl rfl rfl ?_
    refine sq.e ?_
    refine AWp.ret ?_
    refine ⟨rfl, [.bool true], rfl, .bool true, rfl, hs, hn, ?_⟩
    refine ⟨_, rfl, fun hz => ?_⟩
    cases hz
   ·rw [decide_eq_false c6_1]
    refine sq.c (v := .slice a (rs.length) cp) (wantT (g := 2) (d := 42) rfl rfl rfl) rfl rfl rfl ?_
    refine sq.c (v := .int .i64 (((rs.length : Nat) : Int))) (wantT (g := 2) (d := 42) rfl rfl rfl) rfl (by kernel_rfl) rfl ?_
    refine sq.c (v := .bool (decide ((60 : Int) < (((rs.length : Nat) : Int))))) (wantT (g := 2) (d := 42) rfl rfl rfl) rfl rfl rfl ?_
    refine sq.c (v := .bool (decide ((60 : Int) < (((rs.length : Nat) : Int))))) rfl rfl rfl rfl ?_
    refine sq.c (v := .bool (decide ((60 : Int) < (((rs.length : Nat) : Int))))) rfl rfl rfl rfl ?_
    refine sq.e ?_
    refine AWp.ret ?_
    refine ⟨rfl, [.bool (decide ((60 : Int) < (((rs.length : Nat) : Int))))], rfl, .bool (decide ((60 : Int) < (((rs.length : Nat) : Int)))), rfl, hs, hn, ?_⟩
    refine ⟨_, rfl, fun hz => ?_⟩
    have hz := of_decide_eq_false hz
    refine ⟨by omega, fun b hb => ?_⟩
    obtain ⟨j, hj⟩ := List.getElem?_of_mem hb
    have hjl := (List.getElem?_eq_some_iff.1 hj).1
    exact hsm (by omega) j b (by omega) hj
 ·rw [decide_eq_false c3_3]
  refine sq.s (wantF (g := 4) (d := 9) rfl rfl rfl) rfl ?_
  refine sq.s (wantF (g := 4) (d := 9) rfl rfl rfl) rfl ?_
  refine sq.c (v := .bool false) rfl rfl rfl rfl ?_
  refine sq.e ?_
  refine AWp.condF rfl rfl ?_
  refine AWp.exit ?_
  refine AWp.seq (AWp.rowV (l := _) pok ?_)
  refine sq.c (v := .int .i64 (q)) rfl rfl rfl rfl ?_
  refine sq.c (v := .bool (decide ((6000 : Int) ≤ q))) rfl rfl rfl rfl ?_
  refine sq.c (v := .bool (decide ((6000 : Int) ≤ q))) rfl rfl rfl rfl ?_
  by_cases c6_1 : (6000 : Int) ≤ q
  ·rw [decide_eq_true c6_1]
   refine sq.s (wantF (g := 2) (d := 42) rfl rfl rfl) rfl ?_
   refine sq.s (wantF (g := 2) (d := 42) rfl rfl rfl) rfl ?_
   refine sq.s (wantF (g := 2) (d := 42) rfl rfl rfl) rfl ?_
   refine sq.c (v := .bool true) rfl rfl rfl rfl ?_
   refine sq.c (v := .bool true) rfl rfl rfl rfl ?_
   refine sq.e ?_
   refine AWp.ret ?_
   refine ⟨rfl, [.bool true], rfl, .bool true, rfl, hs, hn, ?_⟩
   refine ⟨_, rfl, fun hz => ?_⟩
   cases hz
  ·rw [decide_eq_false c6_1]
   refine sq.c (v := .slice a (rs.length) cp) (wantT (g := 2) (d := 42) rfl rfl rfl) rfl rfl rfl ?_
   refine sq.c (v := .int .i64 (((rs.length : Nat) : Int))) (wantT (g := 2) (d := 42) rfl rfl rfl) rfl (by kernel_rfl) rfl ?_
   refine sq.c (v := .bool (decide ((60 : Int) < (((rs.length : Nat) : Int))))) (wantT (g := 2) (d := 42) rfl rfl rfl) rfl rfl rfl ?_
   refine sq.c (v := .bool (decide ((60 : Int) < (((rs.length : Nat) : Int))))) rfl rfl rfl rfl ?_
   refine sq.c (v := .bool (decide ((60 : Int) < (((rs.length : Nat) : Int))))) rfl rfl rfl rfl ?_
   refine sq.e ?_
   refine AWp.ret ?_
   refine ⟨rfl, [.bool (decide ((60 : Int) < (((rs.length : Nat) : Int))))], rfl, .bool (decide ((60 : Int) < (((rs.length : Nat) : Int)))), rfl, hs, hn, ?_⟩
   refine ⟨_, rfl, fun hz => ?_⟩
   have hz := of_decide_eq_false hz
   refine ⟨by omega, fun b hb => ?_⟩
   obtain ⟨j, hj⟩ := List.getElem?_of_mem hb
   have hjl := (List.getElem?_eq_some_iff.1 hj).1
   exact hsm (by omega) j b (by omega) hj
end Go.Proofs.YtkpaklofdkjinaaDoor
namespace Go.Proofs.YtkpaklofdkjinaaDoor
open Go Go.Proofs Go.Shelf Go.RowKit Go.Lib Go.Sort
set_option maxHeartbeats 1000000
set_option maxRecDepth 100000
theorem w66 (x : ByteArray) (w : World) : Calls Tryd.prog 66 #[.string x] w fun e w' => e = .returned (.bool false) ∧ w' = w := by
  go_enter Tryd.func66, Tryd.ntmps66
  go_wp2
  go_ret
  exact ⟨by simp, rfl⟩
def cmpT (x y : ByteArray) : Int := if Op.bytesLess x.toList y.toList = true then -1 else if (!(Op.bytesLess x.toList y.toList || x.toList == y.toList)) = true then 1 else 0
theorem w49 (x y : ByteArray) (w : World) : Calls Tryd.prog 49 #[.string x, .string y] w fun e w' => e = .returned (.int .i64 (cmpT x y)) ∧ w' = w := by
  go_enter Tryd.func49, Tryd.ntmps49
  go_wp2_with (go_at_call 66; refine (w66 _ _).mono ?_; rintro e w' ⟨rfl, rfl⟩)
  all_goals (go_ret; refine ⟨?_, rfl⟩; unfold cmpT; simp_all)
def orI (x y : Int) : Int := if x = 0 then y else x
theorem w48 (b : Nat) (x y : Int) (w : World) (h0 : w.cell? ⟨b, 0, none⟩ = some (.int .i64 x)) (h1 : w.cell? ⟨b, 1, none⟩ = some (.int .i64 y)) :
    Calls Tryd.prog 48 #[.slice (some ⟨b, 0, none⟩) 2 2] w fun e w' => e = .returned (.int .i64 (orI x y)) ∧ w' = w := by
  unfold orI
  go_enter Tryd.func48, Tryd.ntmps48
  go_wp2
  refine wp_loop_rounds 3 ?_
  rw [rounds_succ]
  go_wp2
  all_goals first | (go_ret; refine ⟨?_, rfl⟩; simp_all; done) | skip
  all_goals (rw [rounds_succ]; go_wp2)
  all_goals first | (go_ret; refine ⟨?_, rfl⟩; simp_all; done) | skip
  all_goals (rw [rounds_succ]; go_wp2)
  all_goals first | (go_ret; refine ⟨?_, rfl⟩; simp_all; done) | skip
def encPl (x : ByteArray × ByteArray) : List Value := [.string x.1, .string x.2]
def cmpPl (x y : ByteArray × ByteArray) : Int := orI (cmpT x.1 y.1) (cmpT x.2 y.2)
theorem cellNew (w : World) (cs : Array Value) (e : TypeId) (n i : Nat) (v : Value) (hn : n = w.heap.size) (h : cs[i]? = some v) : (w.alloc (.cells cs e)).cell? ⟨n, i, none⟩ = some v := by
  have hb : (w.alloc (.cells cs e)).heap[n]? = some (.cells cs e (0, 0)) := by
    show (w.heap.push _)[n]? = _
    rw [Array.getElem?_push, if_pos hn]
  unfold World.cell?
  rw [hb]
  exact h
theorem w28 (x y : ByteArray × ByteArray) (w : World) : Calls Tryd.prog 28 #[.agg #[.string x.1, .string x.2], .agg #[.string y.1, .string y.2]] w fun e w' => e = .returned (.int .i64 (cmpPl x y)) ∧ ∃ q os', w' = grow (w.drewN q) os' := by
  go_enter Tryd.func28, Tryd.ntmps28
  go_wp2
  obtain ⟨W, hW⟩ : ∃ W, (w.alloc (.cells #[.string x.1, .string x.2] 73)).alloc (.cells #[.string y.1, .string y.2] 73) = W := ⟨_, rfl⟩
  rw [hW]
  have hb0 : W.heap[w.heap.size]? = some (.cells #[.string x.1, .string x.2] 73 (0, 0)) := by
    rw [← hW]; show ((w.heap.push _).push _)[w.heap.size]? = _
    rw [Array.getElem?_push, if_neg (by simp), Array.getElem?_push, if_pos rfl]
  have hb1 : W.heap[w.heap.size + 1]? = some (.cells #[.string y.1, .string y.2] 73 (0, 0)) := by
    rw [← hW]; show ((w.heap.push _).push _)[w.heap.size + 1]? = _
    rw [Array.getElem?_push, if_pos (by simp)]
  have c0 : W.cell? ⟨w.heap.size, 0, none⟩ = some (.string x.1) := by unfold World.cell?; rw [hb0]; rfl
  have c1 : W.cell? ⟨w.heap.size, 1, none⟩ = some (.string x.2) := by unfold World.cell?; rw [hb0]; rfl
  have c2 : W.cell? ⟨w.heap.size + 1, 0, none⟩ = some (.string y.1) := by unfold World.cell?; rw [hb1]; rfl
  have c3 : W.cell? ⟨w.heap.size + 1, 1, none⟩ = some (.string y.2) := by unfold World.cell?; rw [hb1]; rfl
  have hs : W.heap.size = w.heap.size + 2 := by
    rw [← hW]; show ((w.heap.push _).push _).size = _
    rw [Array.size_push, Array.size_push]
  go_still_tail 10, (by kernel_rfl)
  still_call (w49 _ _ _)
  repeat still_step
  still_call (w49 _ _ _)
  refine wpStill_nil ?_
  change wpList _ _ _ _ _ W.drew
  have hd : W.drew.heap.size = w.heap.size + 2 := hs
  have hdr : W.drew = grow (w.drewN 1) #[.cells #[.string x.1, .string x.2] 73 (0, 0), .cells #[.string y.1, .string y.2] 73 (0, 0)] := by
    rw [← hW, alloc_eq_grow, alloc_eq_grow, grow_grow]; rfl
  generalize W.drew = w2 at hd hdr
  go_wp2_with (go_at_call 48; refine (w48 _ (cmpT x.1 y.1) (cmpT x.2 y.2) _ (cellNew _ _ _ _ _ _ (by rw [← hdr]; exact hd.symm) rfl) (cellNew _ _ _ _ _ _ (by rw [← hdr]; exact hd.symm) rfl)).mono ?_; rintro e w' ⟨rfl, rfl⟩)
  go_ret
  exact ⟨rfl, 1, _, by rw [alloc_eq_grow, grow_grow]⟩
theorem lays28 (blk off size : Nat) (w : World) : CmpLays Tryd.prog 28 #[] encPl 2 cmpPl blk off size w := fun _ _ _ _ x y => w28 x y _
end Go.Proofs.YtkpaklofdkjinaaDoor
namespace Go.Proofs
open Go.Shelf
def Tryd.lays46_ren : Go.Shelf.Ren := ⟨fun | 6 => 46 | 15 => 65 | 14 => 64 | 28 => 83 | 29 => 84 | 20 => 75 | 21 => 76 | 22 => 77 | 23 => 78 | 24 => 79 | 25 => 80 | 26 => 81 | 27 => 82 | 46 => 89 | 47 => 90 | 48 => 91 | 49 => 92 | 50 => 93 | 57 => 98 | n => n, fun | 22 => 70 | 24 => 73 | 25 => 77 | 3 => 3 | 39 => 119 | 0 => 0 | 53 => 137 | 55 => 51 | 4 => 4 | 46 => 130 | 45 => 129 | 50 => 134 | 5 => 5 | 9 => 9 | 66 => 142 | 70 => 146 | 76 => 156 | 77 => 157 | n => n, fun | n => n⟩
theorem Tryd.lays46 : Go.Proofs.SlLaysF0.n6 Tryd.prog Tryd.lays46_ren := {
  mixed := by kernel_rfl
  f6 := ⟨Tryd.f46.name, by decide, Tryd.func46.trans (congrArg some (by kernel_rfl))⟩
  f14 := ⟨Tryd.f64.name, by decide, Tryd.func64.trans (congrArg some (by kernel_rfl))⟩
  f15 := Tryd.func65.trans (congrArg some (by kernel_rfl))
  f20 := ⟨Tryd.f75.name, by decide, Tryd.func75.trans (congrArg some (by kernel_rfl))⟩
  f21 := ⟨Tryd.f76.name, by decide, Tryd.func76.trans (congrArg some (by kernel_rfl))⟩
  f22 := ⟨Tryd.f77.name, by decide, Tryd.func77.trans (congrArg some (by kernel_rfl))⟩
  f23 := ⟨Tryd.f78.name, by decide, Tryd.func78.trans (congrArg some (by kernel_rfl))⟩
  f24 := ⟨Tryd.f79.name, by decide, Tryd.func79.trans (congrArg some (by kernel_rfl))⟩
  f25 := ⟨Tryd.f80.name, by decide, Tryd.func80.trans (congrArg some (by kernel_rfl))⟩
  f26 := ⟨Tryd.f81.name, by decide, Tryd.func81.trans (congrArg some (by kernel_rfl))⟩
  f27 := ⟨Tryd.f82.name, by decide, Tryd.func82.trans (congrArg some (by kernel_rfl))⟩
  f28 := Tryd.func83.trans (congrArg some (by kernel_rfl))
  f29 := Tryd.func84.trans (congrArg some (by kernel_rfl))
  f46 := ⟨Tryd.f89.name, by decide, Tryd.func89.trans (congrArg some (by kernel_rfl))⟩
  f47 := Tryd.func90.trans (congrArg some (by kernel_rfl))
  f48 := Tryd.func91.trans (congrArg some (by kernel_rfl))
  f49 := ⟨Tryd.f92.name, by decide, Tryd.func92.trans (congrArg some (by kernel_rfl))⟩
  f50 := ⟨Tryd.f93.name, by decide, Tryd.func93.trans (congrArg some (by kernel_rfl))⟩
  f57 := ⟨Tryd.f98.name, by decide, Tryd.func98.trans (congrArg some (by kernel_rfl))⟩
  t0 := Tryd.underlying0
  a0 := Tryd.isAgg0
  z0 := Tryd.sizeOf0
  v0 := Tryd.zeroValue0
  t3 := Tryd.underlying3
  a3 := Tryd.isAgg3
  z3 := Tryd.sizeOf3
  v3 := Tryd.zeroValue3
  t4 := Tryd.underlying4
  a4 := Tryd.isAgg4
  z4 := Tryd.sizeOf4
  v4 := Tryd.zeroValue4
  t5 := Tryd.underlying5
  a5 := Tryd.isAgg5
  z5 := Tryd.sizeOf5
  v5 := Tryd.zeroValue5
  t9 := Tryd.underlying9
  a9 := Tryd.isAgg9
  z9 := Tryd.sizeOf9
  v9 := Tryd.zeroValue9
  t22 := Tryd.underlying70
  a22 := Tryd.isAgg70
  z22 := Tryd.sizeOf70
  v22 := Tryd.zeroValue70
  t25 := Tryd.underlying77
  a25 := Tryd.isAgg77
  z25 := Tryd.sizeOf77
  v25 := Tryd.zeroValue77
  t39 := Tryd.underlying119
  a39 := Tryd.isAgg119
  z39 := Tryd.sizeOf119
  v39 := Tryd.zeroValue119
  t45 := Tryd.underlying129
  a45 := Tryd.isAgg129
  z45 := Tryd.sizeOf129
  v45 := Tryd.zeroValue129
  t46 := Tryd.underlying130
  a46 := Tryd.isAgg130
  z46 := Tryd.sizeOf130
  v46 := Tryd.zeroValue130
  t50 := Tryd.underlying134
  a50 := Tryd.isAgg134
  z50 := Tryd.sizeOf134
  v50 := Tryd.zeroValue134
  t53 := Tryd.underlying137
  a53 := Tryd.isAgg137
  z53 := Tryd.sizeOf137
  v53 := Tryd.zeroValue137
  t55 := Tryd.underlying51
  a55 := Tryd.isAgg51
  z55 := Tryd.sizeOf51
  v55 := Tryd.zeroValue51
  t66 := Tryd.underlying142
  a66 := Tryd.isAgg142
  z66 := Tryd.sizeOf142
  v66 := Tryd.zeroValue142
  t70 := Tryd.underlying146
  a70 := Tryd.isAgg146
  z70 := Tryd.sizeOf146
  v70 := Tryd.zeroValue146
  t76 := Tryd.underlying156
  a76 := Tryd.isAgg156
  z76 := Tryd.sizeOf156
  v76 := Tryd.zeroValue156
  t77 := Tryd.underlying157
  a77 := Tryd.isAgg157
  z77 := Tryd.sizeOf157
  v77 := Tryd.zeroValue157 }
end Go.Proofs
namespace Go.Proofs.YtkpaklofdkjinaaDoor
open Go Go.Proofs Go.Shelf Go.RowKit Go.Lib Go.Sort
set_option maxHeartbeats 4000000
set_option maxRecDepth 100000
attribute [local go_sem] Oper.semAt_some
def plV (x : Pl) : Value := .agg #[.string x.1, .string x.2]
theorem nextRun {P : Program} (w : World) (ty : TypeId) (r b since last clock : Nat) (seen : Array Nat) (es : Array MapEntry) (hr : w.heap[r]? = some (.mapIter (some b) since seen last)) (hb : w.heap[b]? = some (.map es clock))
    (hold : ∀ x ∈ es.toList, x.born < since) (hsl : since ≤ last) :
    ((∀ e ∈ es.toList, e.born ∈ seen.toList) ∧ (Instr.next (.pointer (some ⟨r, 0, none⟩)) false ty).run P w = .ok (.tuple #[.bool false]) w) ∨
    ∃ e ∈ es.toList, e.born ∉ seen.toList ∧ ∃ d, (Instr.next (.pointer (some ⟨r, 0, none⟩)) false ty).run P w = .ok (.tuple #[.bool true, e.key, e.val]) { w with drawn := d, heap := w.heap.setIfInBounds r (.mapIter (some b) since (seen.push e.born) clock) } := by
  have hgi : (getObj r).run P w = .ok (.mapIter (some b) since seen last) w := by simp [getObj, Sem.run, hr]
  have hget : (getObj b).run P w = .ok (.map es clock) w := by simp [getObj, Sem.run, hb]
  obtain ⟨L, hLe⟩ : ∃ L, L = es.filter fun e => !seen.contains e.born := ⟨_, rfl⟩
  have hL : L.toList = es.toList.filter fun e => !seen.contains e.born := by rw [hLe, Array.toList_filter]
  have hmem : ∀ x ∈ L.toList, x.born < since := by
    intro x hx; rw [hL] at hx; exact hold x (List.mem_filter.1 hx).1
  have e1 : L.filter (fun x => decide (x.born < since)) = L := Array.filter_eq_self.2 (fun x hx => by simpa using hmem x (by simpa using hx))
  have e2 : L.filter (fun x => decide (x.born ≥ since)) = #[] := by
    rw [Array.filter_eq_empty_iff]
    intro x hx
    have := hmem x (by simpa using hx)
    simp
    omega
  have htest := Go.next_test_false seen es since last hold hsl
  by_cases h0 : L.size = 0
  · have hL0 : L = #[] := Array.eq_empty_of_size_eq_zero h0
    refine .inl ⟨?_, ?_⟩
    · intro e he
      rw [hL0] at hL
      have := List.filter_eq_nil_iff.1 hL.symm e he
      simpa using this
    · simp only [Instr.next, Sem.run_bind, hgi, Result.andThen_ok, hget, htest, Bool.false_eq_true, if_false, ← hLe, e1, e2]
      rw [hL0]
      simp [choose, Sem.run, Question.forced]
  · have hne : L.isEmpty = false := by simp [Array.isEmpty, h0]
    have hch : ∃ (j d : Nat), j < L.size ∧ (choose (Question.mapNext L.size)).run P w = .ok j { w with drawn := d } := by
      by_cases hf : L.size ≤ 1
      · exact ⟨0, w.drawn, by omega, by simp [choose, Sem.run, Question.forced, hf]⟩
      · exact ⟨_, w.drawn + 1, Nat.mod_lt _ (by omega), by
          simp only [choose, Sem.run, Question.forced, decide_eq_true_eq, hf, if_false, Question.cut]
          rfl⟩
    obtain ⟨j, d, hj, hchr⟩ := hch
    have hj2 : L[j]? = some L[j] := Array.getElem?_eq_getElem hj
    have hjm : L[j] ∈ L.toList := by simp
    rw [hL] at hjm
    obtain ⟨m1, m2⟩ := List.mem_filter.1 hjm
    refine .inr ⟨L[j], m1, by simpa using m2, d, ?_⟩
    have hset2 : ∀ x, (setObj r x).run P { w with drawn := d } = .ok () { w with drawn := d, heap := w.heap.setIfInBounds r x } := fun x => by simp [setObj, Sem.run, hr]
    simp only [Instr.next, Sem.run_bind, hgi, Result.andThen_ok, hget, htest, Bool.false_eq_true, if_false, ← hLe, e1, e2, Array.append_empty, hne, Array.empty_append, Array.size_map, hchr, Array.getElem?_map, hj2, Option.map_some, hset2, Sem.run_pure]
section
variable {F : Fence} {n : Nat} {P : Program} {w : World} {ops : Array Oper} {rest : List Oper} {o : Oper} {a : Act} {Q : Exit → Act → World → Prop}
theorem wpListIn_rangeC (hg : o.guard = none) (m : Operand) (t : TypeId) (hop : o.op = Op.range t m) {k e : TypeId} (ht : P.underlying t = some (.map k e)) {b clock : Nat} {es : Array MapEntry}
    (hm : a.eval m = .map (some b)) (hb : w.heap[b]? = some (.map es clock))
    (hK : ∀ w', w'.heap[w.heap.size]? = some (.mapIter (some b) clock #[] clock) → w'.heap[b]? = some (.map es clock) → w.grownBy w' none → w'.heap.size = w.heap.size + 1 → wpListIn F n P ops Q rest (a.put o.dst (.pointer (some ⟨w.heap.size, 0, none⟩))) w') :
    wpListIn F n P ops Q (o :: rest) a w := by
  refine wpListIn_plain hg fun K' hK' => ?_
  have hget : (getObj b).run P w = .ok (.map es clock) w := by simp [getObj, Sem.run, hb]
  have hrun : (Instr.range t (.map (some b))).run P w = .ok (.pointer (some ⟨w.heap.size, 0, none⟩)) (w.alloc (.mapIter (some b) clock #[] clock)) := by
    simp [Instr.range, run_underlying ht, hget]
  have hlt := (Array.getElem?_eq_some_iff.1 hb).1
  unfold Oper.wpIn
  refine ⟨?_, ?_⟩
  · simp [Oper.about, hop]
  · rw [Oper.semAt_plain F _ _ (by rw [hop]; intro c hc'; cases hc')]
    simp [execOp, hop, hm, hrun, Result.andThen]
    exact hK' _ _ (hK _ (World.alloc_heap_new w _) ((Below.heap_alloc w _ b hlt).trans hb) (World.grownBy_alloc w _ none) (by simp))
theorem wpListIn_nextC (hg : o.guard = none) (it : Operand) (hop : o.op = Op.next it false) {r b since last clock : Nat} {seen : Array Nat} {es : Array MapEntry} (hit : a.eval it = .pointer (some ⟨r, 0, none⟩))
    (hr : w.heap[r]? = some (.mapIter (some b) since seen last)) (hb : w.heap[b]? = some (.map es clock)) (hrb : r ≠ b) (hkeys : ∀ e ∈ es.toList, ∃ x : Pl, e.key = plV x) (hnd : (es.toList.map (·.born)).Nodup) (hold : ∀ x ∈ es.toList, x.born < since) (hsl : since ≤ last)
    (hDone : (∀ e ∈ es.toList, e.born ∈ seen.toList) → wpListIn F n P ops Q rest (a.put o.dst (.tuple #[.bool false])) w)
    (hMore : ∀ (x : Pl) (c : Value) (z : Nat) (w' : World), (⟨plV x, c, z⟩ : MapEntry) ∈ es.toList → z ∉ seen.toList → w'.heap[r]? = some (.mapIter (some b) since (seen.push z) clock) → w'.heap[b]? = some (.map es clock) →
      w.grownBy w' (some r) → w'.heap.size = w.heap.size → (Instr.entry (.pointer (some ⟨r, 0, none⟩))).run P w' = .ok (.tuple #[plV x, c]) w' → wpListIn F n P ops Q rest (a.put o.dst (.tuple #[.bool true, plV x, c])) w') :
    wpListIn F n P ops Q (o :: rest) a w := by
  refine wpListIn_plain hg fun K' hK' => ?_
  unfold Oper.wpIn
  refine ⟨by simp [Oper.about, hop], ?_⟩
  rw [Oper.semAt_plain F _ _ (by rw [hop]; intro c hc'; cases hc')]
  rcases nextRun (P := P) w o.type r b since last clock seen es hr hb hold hsl with ⟨h1, hrun⟩ | ⟨e, he, hne, d, hrun⟩
  · simp [execOp, hop, hit, hrun, Result.andThen]
    exact hK' _ _ (hDone h1)
  · obtain ⟨x, hx⟩ := hkeys e he
    obtain ⟨ek, ev, ez⟩ := e
    simp only at hx hne hrun
    subst hx
    have hlt := (Array.getElem?_eq_some_iff.1 hr).1
    obtain ⟨w', hw'⟩ : ∃ w' : World, w' = { w with drawn := d, heap := w.heap.setIfInBounds r (.mapIter (some b) since (seen.push ez) clock) } := ⟨_, rfl⟩
    rw [← hw'] at hrun
    have h1 : w'.heap[r]? = some (.mapIter (some b) since (seen.push ez) clock) := by rw [hw']; simp [hlt]
    have h2 : w'.heap[b]? = some (.map es clock) := by rw [hw']; show (w.heap.setIfInBounds r _)[b]? = _; rw [Array.getElem?_setIfInBounds_ne hrb]; exact hb
    have hg1 : (getObj r).run P w' = .ok (.mapIter (some b) since (seen.push ez) clock) w' := by simp [getObj, Sem.run, h1]
    have hg2 : (getObj b).run P w' = .ok (.map es clock) w' := by simp [getObj, Sem.run, h2]
    have hfd : es.find? (fun e => e.born == ez) = some ⟨plV x, ev, ez⟩ := by rw [← Array.find?_toList]; exact find_born ⟨plV x, ev, ez⟩ es.toList hnd he
    have hen : (Instr.entry (.pointer (some ⟨r, 0, none⟩))).run P w' = .ok (.tuple #[plV x, ev]) w' := by
      simp only [Instr.entry, Sem.run_bind, hg1, Result.andThen_ok, Array.back?_push, hg2, bne_self_eq_false, Bool.false_eq_true, if_false, hfd, Sem.run_pure]
    simp [execOp, hop, hit, hrun, Result.andThen]
    refine hK' _ _ (hMore x ev ez w' he hne h1 h2 ?_ ?_ hen)
    · rw [hw']
      refine ⟨rfl, rfl, rfl, by simp, fun k hk hkr => ?_⟩
      show (w.heap.setIfInBounds r _)[k]? = _
      rw [Array.getElem?_setIfInBounds_ne (fun e => hkr (by rw [e]))]
    · rw [hw']; simp
end
def leftW (r b : Nat) (w : World) : Nat := match w.heap[r]?, w.heap[b]? with
  | some (.mapIter _ _ seen _), some (.map es _) => es.size - seen.size
  | _, _ => 0
structure Came (es : Array MapEntry) (seen : Array Nat) (ss : List Pl) (xs : List MapEntry) : Prop where
  sub : ∀ x ∈ xs, x ∈ es.toList
  born : xs.map (·.born) = seen.toList
  nodup : seen.toList.Nodup
  keys : xs.map (·.key) = ss.map plV
theorem nodup_le : ∀ (a b : List Nat), a.Nodup → (∀ x ∈ a, x ∈ b) → a.length ≤ b.length
  | [], b, _, _ => Nat.zero_le _
  | x :: a, b, hn, hs => by
    rw [List.nodup_cons] at hn
    have hx := hs x (List.mem_cons_self ..)
    have := nodup_le a (b.erase x) hn.2 (fun y hy => (List.mem_erase_of_ne (fun (e : y = x) => hn.1 (by rw [← e]; exact hy))).2 (hs y (List.mem_cons_of_mem _ hy)))
    rw [List.length_erase_of_mem hx] at this
    have := List.length_pos_of_mem hx
    simp only [List.length_cons]; omega
theorem nodup_of_born {xs : List MapEntry} (h : (xs.map (·.born)).Nodup) : xs.Nodup := List.Pairwise.of_map _ (fun _ _ h e => h (by rw [e])) h
theorem Came.le {es : Array MapEntry} {seen : Array Nat} {ss : List Pl} {xs : List MapEntry} (c : Came es seen ss xs) : ss.length = seen.size ∧ ss.length ≤ es.size := by
  have h1 : xs.length = ss.length := by have := congrArg List.length c.keys; simpa using this
  have h2 : xs.length = seen.size := by have := congrArg List.length c.born; simpa using this
  have h3 := nodup_le (xs.map (·.born)) (es.toList.map (·.born)) (by rw [c.born]; exact c.nodup) (fun z hz => by
    obtain ⟨e, he, rfl⟩ := List.mem_map.1 hz
    exact List.mem_map.2 ⟨e, c.sub e he, rfl⟩)
  simp only [List.length_map, Array.length_toList] at h3
  exact ⟨by omega, by omega⟩
theorem keys47 (F : Fence) (n : Nat) (hF : F.fn 47) (hro : F.round = none) (hn : 1 ≤ n) (l Bm b clock : Nat) (es : Array MapEntry) (hkeys : ∀ e ∈ es.toList, ∃ x : Pl, e.key = plV x) (hnd : (es.toList.map (·.born)).Nodup) (hold : ∀ x ∈ es.toList, x.born < clock) (J Jx : List Pl → World → Prop)
    (hY : ∀ pre x W, J pre W → pre.length < es.size → YieldAt F (n - 1) Tryd.prog l #[plV x] W fun e W' =>
      (e = .returned (.bool true) ∧ J (pre ++ [x]) W' ∧ KeepsWalks W W') ∨ (e = .returned (.bool false) ∧ Jx (pre ++ [x]) W'))
    (W : World) (hJ : AbidesFrom W.heap.size J) (hm : W.cell? ⟨Bm, 0, none⟩ = some (.map (some b))) (hb : W.heap[b]? = some (.map es clock)) (h0 : J [] W) :
    CallsIn F n Tryd.prog 47 #[.func (.yield l) #[] #[], .pointer (some ⟨Bm, 0, none⟩)] W fun e W' => (∃ v, e = .returned v) ∧
      ((∃ ss : List Pl, (es.toList.map (·.key)).Perm (ss.map plV) ∧ J ss W') ∨ (∃ pre : List Pl, True ∧ Jx pre W')) := by
  have hbl := (Array.getElem?_eq_some_iff.1 hb).1
  have HK : Hid (∀ e ∈ es.toList, ∃ x : Pl, e.key = plV x) := hkeys
  have HN : Hid ((es.toList.map (·.born)).Nodup) := hnd
  have HO : Hid (∀ x ∈ es.toList, x.born < clock) := hold
  clear hkeys hnd hold
  refine callsIn_of_wp Tryd.func47 rfl hF ?_ hro
  simp only [Tryd.ntmps47, List.size_toArray, List.length_cons, List.length_nil, Nat.reduceAdd, Nat.reduceSub, Array.replicate_succ, Array.replicate_zero, List.push_toArray, List.append_toArray, List.nil_append, List.cons_append]
  gi_wp2_with (first
    | (gi_at_range; refine wpListIn_rangeC rfl _ 66 rfl Tryd.underlying66 rfl hb ?_; intro w0 hi0 hb0 hg0 hs0)
    | gi_in)
  go_frame
  gi_loopw [3] (fun _ wr => ∃ (seen : Array Nat) (last : Nat) (ss : List Pl) (xs : List MapEntry), wr.heap[W.heap.size]? = some (.mapIter (some b) clock seen last) ∧ clock ≤ last ∧ wr.heap[b]? = some (.map es clock) ∧ Came es seen ss xs ∧ J ss wr)
    (fun _ wr => leftW W.heap.size b wr)
  case atStart =>
    exact ⟨_, _, [], [], hi0, Nat.le_refl _, hb0, ⟨by simp, rfl, by simp, rfl⟩, hJ [] W w0 none h0 hg0 (fun r e => by cases e)⟩
  case round =>
    obtain ⟨seen, last, ss, xs, hi, hcl, hbr, hC, hJs⟩ := hrel
    gi_wp2_with (first
      | (gi_at_next; refine wpListIn_nextC rfl _ rfl rfl hi hbr (by omega) HK.out HN.out HO.out hcl ?_ ?_)
      | gi_in)
    · intro hall0
      have hall : ∀ e ∈ es.toList, e.born ∈ seen.toList := fun e he => by simpa using hall0 e (by simpa using he)
      clear hall0
      gi_wp2
      go_end0
      refine ⟨⟨_, rfl⟩, .inl ⟨ss, ?_, hJs⟩⟩
      rw [← hC.keys]
      refine List.Perm.map _ (List.Perm.symm ?_)
      have hn1 : xs.Nodup := by
        have := hC.nodup
        rw [← hC.born] at this
        exact nodup_of_born this
      have hn2 : es.toList.Nodup := nodup_of_born HN.out
      refine (List.perm_ext_iff_of_nodup hn1 hn2).2 fun e => ⟨hC.sub e, fun he => ?_⟩
      have hz := hall e he
      rw [← hC.born] at hz
      obtain ⟨e', he', hee⟩ := List.mem_map.1 hz
      have h1 := find_born e es.toList HN.out he
      have h2 := find_born e' es.toList HN.out (hC.sub e' he')
      rw [hee, h1] at h2
      cases h2
      exact he'
    · intro x1 x2 c z w2 hmem0 hz0 hi2 hb2 hg2 hs2 hen
      have hmem : (⟨plV (x1, x2), c, z⟩ : MapEntry) ∈ es.toList := by simpa using hmem0
      have hz : z ∉ seen.toList := by simpa using hz0
      clear hmem0 hz0
      have hlen := hC.le
      have hJ2 : J ss w2 := hJ ss wr w2 (some W.heap.size) hJs hg2 (fun r e => by cases e; exact ⟨Nat.le_refl _, _, hi, rfl⟩)
      have hC2 : Came es (seen.push z) (ss ++ [(x1, x2)]) (xs ++ [⟨plV (x1, x2), c, z⟩]) := by
        refine ⟨?_, by simp [hC.born], ?_, by simp [hC.keys]⟩
        · intro y hy
          rcases List.mem_append.1 hy with hy | hy
          · exact hC.sub y hy
          · rw [List.mem_singleton] at hy; subst hy; exact hmem
        · rw [Array.toList_push, List.nodup_append]
          refine ⟨hC.nodup, by simp, ?_⟩
          intro a ha b' hb'
          rw [List.mem_singleton] at hb'
          subst hb'
          exact fun e => hz (e ▸ ha)
      have hlen2 := hC2.le
      simp only [List.length_append, List.length_singleton] at hlen2
      have hJa : J ss (w2.alloc (.cells #[.string x1, .string x2] 73)) := hJ ss w2 _ none hJ2 (World.grownBy_alloc w2 _ none) (fun r e => by cases e)
      obtain ⟨fn, tmps, assign, body, hy, hR⟩ := hY ss (x1, x2) _ hJa (by omega)
      dsimp only [plV] at hy
      unfold plV at hen
      clear hs2
      have HC2 : Hid _ := hC2
      have HL : Hid _ := hlen
      have HL2 : Hid _ := hlen2
      clear hC2 hC hlen hlen2 hmem hz
      have hlW : W.heap.size < w2.heap.size := (Array.getElem?_eq_some_iff.1 hi2).1
      have hlb : b < w2.heap.size := (Array.getElem?_eq_some_iff.1 hb2).1
      have hi2a : (w2.alloc (.cells #[.string x1, .string x2] 73)).heap[W.heap.size]? = some (.mapIter (some b) clock (seen.push z) clock) := (Below.heap_alloc w2 _ _ hlW).trans hi2
      have hb2a : (w2.alloc (.cells #[.string x1, .string x2] 73)).heap[b]? = some (.map es clock) := (Below.heap_alloc w2 _ _ hlb).trans hb2
      gi_wp2
      refine hR.mono ?_
      rintro e W3 (⟨rfl, hJ3, hk3⟩ | ⟨rfl, hJx3⟩)
      · have hi3 := hk3.same _ _ hi2a rfl
        have hb3 := hk3.same _ _ hb2a rfl
        gi_wp2
        go_roundw
        case rel => exact ⟨_, _, ss ++ [(x1, x2)], _, hi3, Nat.le_refl _, hb3, HC2.out, hJ3⟩
        case measure =>
          have h1 := HL.out
          have h2 := HL2.out
          simp only [leftW, hi3, hb3, hi, hbr, Array.size_push] at h2 ⊢
          omega
      · gi_wp2
        refine bodyPost_ret (results_none rfl _ _ _) rfl ?_
        exact ⟨⟨_, rfl⟩, .inr ⟨ss ++ [(x1, x2)], trivial, hJx3⟩⟩
theorem stops47 (F : Fence) (n : Nat) (hF : F.fn 47) (hro : F.round = none) (hn : 1 ≤ n) (Bm b clock : Nat) (es : Array MapEntry) (hkeys : ∀ e ∈ es.toList, ∃ x : Pl, e.key = plV x) (hnd : (es.toList.map (·.born)).Nodup) (hold : ∀ x ∈ es.toList, x.born < clock)
    (w : World) (hBm : Bm < w.heap.size) (hm : w.cell? ⟨Bm, 0, none⟩ = some (.map (some b))) (hb : w.heap[b]? = some (.map es clock)) :
    SeqStopsK F n Tryd.prog 47 #[.pointer (some ⟨Bm, 0, none⟩)] (fun x : Pl => #[plV x]) KeepsWalks (fun ss => (es.toList.map (·.key)).Perm (ss.map plV)) (fun _ => True) es.size w := fun l J Jx W hW hJ _ hY h0 =>
  keys47 F n hF hro hn l Bm b clock es hkeys hnd hold J Jx hY W hJ ((hW.cell (p := ⟨Bm, 0, none⟩) hBm).trans hm) ((hW.block b (Array.getElem?_eq_some_iff.1 hb).1).trans hb) h0
theorem keys59 (F : Fence) (n : Nat) (hF : F.fn 59) (hro : F.round = none) (hn : 1 ≤ n) (l Bm b clock : Nat) (es : Array MapEntry) (hkeys : ∀ e ∈ es.toList, ∃ x : Pl, e.key = plV x) (hnd : (es.toList.map (·.born)).Nodup) (hold : ∀ x ∈ es.toList, x.born < clock) (J Jx : List Pl → World → Prop)
    (hY : ∀ pre x W, J pre W → pre.length < es.size → YieldAt F (n - 1) Tryd.prog l #[plV x] W fun e W' =>
      (e = .returned (.bool true) ∧ J (pre ++ [x]) W' ∧ KeepsWalks W W') ∨ (e = .returned (.bool false) ∧ Jx (pre ++ [x]) W'))
    (W : World) (hJ : AbidesFrom W.heap.size J) (hm : W.cell? ⟨Bm, 0, none⟩ = some (.map (some b))) (hb : W.heap[b]? = some (.map es clock)) (h0 : J [] W) :
    CallsIn F n Tryd.prog 59 #[.func (.yield l) #[] #[], .pointer (some ⟨Bm, 0, none⟩)] W fun e W' => (∃ v, e = .returned v) ∧
      ((∃ ss : List Pl, (es.toList.map (·.key)).Perm (ss.map plV) ∧ J ss W') ∨ (∃ pre : List Pl, True ∧ Jx pre W')) := by
  have hbl := (Array.getElem?_eq_some_iff.1 hb).1
  have HK : Hid (∀ e ∈ es.toList, ∃ x : Pl, e.key = plV x) := hkeys
  have HN : Hid ((es.toList.map (·.born)).Nodup) := hnd
  have HO : Hid (∀ x ∈ es.toList, x.born < clock) := hold
  clear hkeys hnd hold
  refine callsIn_of_wp Tryd.func59 rfl hF ?_ hro
  simp only [Tryd.ntmps59, List.size_toArray, List.length_cons, List.length_nil, Nat.reduceAdd, Nat.reduceSub, Array.replicate_succ, Array.replicate_zero, List.push_toArray, List.append_toArray, List.nil_append, List.cons_append]
  gi_wp2_with (first
    | (gi_at_range; refine wpListIn_rangeC rfl _ 67 rfl Tryd.underlying67 rfl hb ?_; intro w0 hi0 hb0 hg0 hs0)
    | gi_in)
  go_frame
  gi_loopw [3] (fun _ wr => ∃ (seen : Array Nat) (last : Nat) (ss : List Pl) (xs : List MapEntry), wr.heap[W.heap.size]? = some (.mapIter (some b) clock seen last) ∧ clock ≤ last ∧ wr.heap[b]? = some (.map es clock) ∧ Came es seen ss xs ∧ J ss wr)
    (fun _ wr => leftW W.heap.size b wr)
  case atStart =>
    exact ⟨_, _, [], [], hi0, Nat.le_refl _, hb0, ⟨by simp, rfl, by simp, rfl⟩, hJ [] W w0 none h0 hg0 (fun r e => by cases e)⟩
  case round =>
    obtain ⟨seen, last, ss, xs, hi, hcl, hbr, hC, hJs⟩ := hrel
    gi_wp2_with (first
      | (gi_at_next; refine wpListIn_nextC rfl _ rfl rfl hi hbr (by omega) HK.out HN.out HO.out hcl ?_ ?_)
      | gi_in)
    · intro hall0
      have hall : ∀ e ∈ es.toList, e.born ∈ seen.toList := fun e he => by simpa using hall0 e (by simpa using he)
      clear hall0
      gi_wp2
      go_end0
      refine ⟨⟨_, rfl⟩, .inl ⟨ss, ?_, hJs⟩⟩
      rw [← hC.keys]
      refine List.Perm.map _ (List.Perm.symm ?_)
      have hn1 : xs.Nodup := by
        have := hC.nodup
        rw [← hC.born] at this
        exact nodup_of_born this
      have hn2 : es.toList.Nodup := nodup_of_born HN.out
      refine (List.perm_ext_iff_of_nodup hn1 hn2).2 fun e => ⟨hC.sub e, fun he => ?_⟩
      have hz := hall e he
      rw [← hC.born] at hz
      obtain ⟨e', he', hee⟩ := List.mem_map.1 hz
      have h1 := find_born e es.toList HN.out he
      have h2 := find_born e' es.toList HN.out (hC.sub e' he')
      rw [hee, h1] at h2
      cases h2
      exact he'
    · intro x1 x2 c z w2 hmem0 hz0 hi2 hb2 hg2 hs2 hen
      have hmem : (⟨plV (x1, x2), c, z⟩ : MapEntry) ∈ es.toList := by simpa using hmem0
      have hz : z ∉ seen.toList := by simpa using hz0
      clear hmem0 hz0
      have hlen := hC.le
      have hJ2 : J ss w2 := hJ ss wr w2 (some W.heap.size) hJs hg2 (fun r e => by cases e; exact ⟨Nat.le_refl _, _, hi, rfl⟩)
      have hC2 : Came es (seen.push z) (ss ++ [(x1, x2)]) (xs ++ [⟨plV (x1, x2), c, z⟩]) := by
        refine ⟨?_, by simp [hC.born], ?_, by simp [hC.keys]⟩
        · intro y hy
          rcases List.mem_append.1 hy with hy | hy
          · exact hC.sub y hy
          · rw [List.mem_singleton] at hy; subst hy; exact hmem
        · rw [Array.toList_push, List.nodup_append]
          refine ⟨hC.nodup, by simp, ?_⟩
          intro a ha b' hb'
          rw [List.mem_singleton] at hb'
          subst hb'
          exact fun e => hz (e ▸ ha)
      have hlen2 := hC2.le
      simp only [List.length_append, List.length_singleton] at hlen2
      have hJa : J ss (w2.alloc (.cells #[.string x1, .string x2] 73)) := hJ ss w2 _ none hJ2 (World.grownBy_alloc w2 _ none) (fun r e => by cases e)
      obtain ⟨fn, tmps, assign, body, hy, hR⟩ := hY ss (x1, x2) _ hJa (by omega)
      dsimp only [plV] at hy
      unfold plV at hen
      clear hs2
      have HC2 : Hid _ := hC2
      have HL : Hid _ := hlen
      have HL2 : Hid _ := hlen2
      clear hC2 hC hlen hlen2 hmem hz
      have hlW : W.heap.size < w2.heap.size := (Array.getElem?_eq_some_iff.1 hi2).1
      have hlb : b < w2.heap.size := (Array.getElem?_eq_some_iff.1 hb2).1
      have hi2a : (w2.alloc (.cells #[.string x1, .string x2] 73)).heap[W.heap.size]? = some (.mapIter (some b) clock (seen.push z) clock) := (Below.heap_alloc w2 _ _ hlW).trans hi2
      have hb2a : (w2.alloc (.cells #[.string x1, .string x2] 73)).heap[b]? = some (.map es clock) := (Below.heap_alloc w2 _ _ hlb).trans hb2
      gi_wp2
      refine hR.mono ?_
      rintro e W3 (⟨rfl, hJ3, hk3⟩ | ⟨rfl, hJx3⟩)
      · have hi3 := hk3.same _ _ hi2a rfl
        have hb3 := hk3.same _ _ hb2a rfl
        gi_wp2
        go_roundw
        case rel => exact ⟨_, _, ss ++ [(x1, x2)], _, hi3, Nat.le_refl _, hb3, HC2.out, hJ3⟩
        case measure =>
          have h1 := HL.out
          have h2 := HL2.out
          simp only [leftW, hi3, hb3, hi, hbr, Array.size_push] at h2 ⊢
          omega
      · gi_wp2
        refine bodyPost_ret (results_none rfl _ _ _) rfl ?_
        exact ⟨⟨_, rfl⟩, .inr ⟨ss ++ [(x1, x2)], trivial, hJx3⟩⟩
theorem stops59 (F : Fence) (n : Nat) (hF : F.fn 59) (hro : F.round = none) (hn : 1 ≤ n) (Bm b clock : Nat) (es : Array MapEntry) (hkeys : ∀ e ∈ es.toList, ∃ x : Pl, e.key = plV x) (hnd : (es.toList.map (·.born)).Nodup) (hold : ∀ x ∈ es.toList, x.born < clock)
    (w : World) (hBm : Bm < w.heap.size) (hm : w.cell? ⟨Bm, 0, none⟩ = some (.map (some b))) (hb : w.heap[b]? = some (.map es clock)) :
    SeqStopsK F n Tryd.prog 59 #[.pointer (some ⟨Bm, 0, none⟩)] (fun x : Pl => #[plV x]) KeepsWalks (fun ss => (es.toList.map (·.key)).Perm (ss.map plV)) (fun _ => True) es.size w := fun l J Jx W hW hJ _ hY h0 =>
  keys59 F n hF hro hn l Bm b clock es hkeys hnd hold J Jx hY W hJ ((hW.cell (p := ⟨Bm, 0, none⟩) hBm).trans hm) ((hW.block b (Array.getElem?_eq_some_iff.1 hb).1).trans hb) h0
theorem cell_two_new (w : World) (x : Pl) (t : TypeId) : ∀ j u, (encPl x)[j]? = some u → (w.alloc (.cells #[.string x.1, .string x.2] t)).cell? ((⟨w.heap.size, 0, none⟩ : Addr).add j) = some u := by
  intro j u hj
  have hb : (w.alloc (.cells #[.string x.1, .string x.2] t)).heap[w.heap.size]? = some (.cells #[.string x.1, .string x.2] t (0, 0)) := World.alloc_heap_new w _
  match j, hj with
  | 0, hj => simp [encPl] at hj; subst hj; show World.cell? _ ⟨w.heap.size, 0 + 0, none⟩ = _; unfold World.cell?; rw [hb]; rfl
  | 1, hj => simp [encPl] at hj; subst hj; show World.cell? _ ⟨w.heap.size, 0 + 1, none⟩ = _; unfold World.cell?; rw [hb]; rfl
  | j + 2, hj => simp [encPl] at hj
theorem info73 : (Tryd.prog.info? 73).map (fun i => (i.zero, i.size, i.bytes)) = some (some (.agg #[.string ⟨#[]⟩, .string ⟨#[]⟩]), 2, 32) := by kernel_rfl
theorem info_of {P : Program} {t : TypeId} {z : Value} {a b : Nat} (h : (P.info? t).map (fun i => (i.zero, i.size, i.bytes)) = some (some z, a, b)) : ∃ i, P.info? t = some i ∧ i.zero = some z ∧ i.size = a ∧ i.bytes = b := by
  cases hi : P.info? t with
  | none => rw [hi] at h; cases h
  | some i => rw [hi] at h; simp only [Option.map_some, Option.some.injEq, Prod.mk.injEq] at h; exact ⟨i, rfl, h.1, h.2.1, h.2.2⟩
theorem seq63 (F : Fence) (n : Nat) (h63 : F.fn 63) (hro : F.round = none) (hn : 2 ≤ n) (g : Nat) (lb : Array Value) (hFg : F.fn g) (eg : ∀ args w, (callFunc g args).run Tryd.prog w = .ok (.enter g args) w) (S : List Pl → Prop) (N : Nat) (hN : N ≤ maxLen) (hNb : N * 32 ≤ 140737488355328) (w : World)
    (hseq : SeqStopsK F (n - 1) Tryd.prog g lb (fun x : Pl => #[plV x]) KeepsWalks S (fun _ => True) N w) :
    CallsIn F n Tryd.prog 63 #[.slice none 0 0, .func (.func g) #[] lb] w fun e w' => ∃ (v : Value) (ss : List Pl), e = .returned v ∧ S ss ∧ w'.ownsRow w.heap.size 73 2 v ss.length (ss.flatMap encPl) ∧ (v = .slice none 0 0 ↔ ss = []) ∧ Below w.heap.size w w' := by
  have h1 : 1 ≤ n := by omega
  obtain ⟨i0, hi, hz0, hz1, hz2⟩ := info_of info73
  refine callsIn_of_wp_marks Tryd.func63 rfl h63 ?_ hro
  simp only [Tryd.ntmps63, List.size_toArray, List.length_cons, List.length_nil, Nat.reduceAdd, Nat.reduceSub, Array.replicate_succ, Array.replicate_zero, List.push_toArray, List.append_toArray, List.nil_append, List.cons_append]
  gi_wp2
  refine wpIn_rangeFunc_ownH hro h1 (gf := g) (lb := lb) rfl hFg eg hseq walksK_t walksK_b ((Below.refl _ w).alloc (Nat.le_refl _) _) (fun _ => rfl)
    (fun pre W => (∃ v, Boxed W w.heap.size 70 v ∧ W.ownsRow w.heap.size 73 2 v pre.length (pre.flatMap encPl) ∧ (v = .slice none 0 0 ↔ pre = [])) ∧ Below w.heap.size w W)
    (fun _ _ _ => False)
    (OwnFrom.and (Own.from (holdsRow_own w.heap.size w.heap.size 70 73 2 (fun pre => pre.length) (fun pre => pre.flatMap encPl) (fun pre v => v = .slice none 0 0 ↔ pre = [])) _) (ownFrom_below (Nat.le_refl _) (by simp)))
    (fun _ _ _ _ _ hs _ _ => hs)
    ⟨⟨.slice none 0 0, Boxed.new w 70 _, World.ownsRow_nil _ _ _ _, by simp⟩, (Below.refl _ w).alloc (Nat.le_refl _) _⟩
    (fun x a' W => ∃ Bx, w.heap.size < Bx ∧ W.heap[Bx]? = some (.cells #[.string x.1, .string x.2] 73 (0, 0)) ∧ a' = { tmps := #[.slice none 0 0, .func (.func g) #[] lb, .pointer (some ⟨w.heap.size, 0, none⟩), undef, .slice none 0 0, .pointer (some ⟨Bx, 0, none⟩), .func (.func g) #[] lb, plV x, undef, undef, undef, undef, undef], defers := [] })
    (fun x a' _ X Y row hs hg hr => by
      obtain ⟨Bx, h1, h2, h3⟩ := hs
      refine ⟨Bx, h1, (hg.block Bx (Array.getElem?_eq_some_iff.1 h2).1 (fun e => ?_)).trans h2, h3⟩
      obtain ⟨_, o, ho, hc⟩ := hr Bx e.symm
      rw [h2] at ho; cases ho; cases hc)
    ?assign ?body ?done ?stop
  case assign =>
    rintro l pre x W K ⟨⟨v, hv, hrow, hnil⟩, hB⟩ hK
    unfold plV
    gi_wp2
    exact hK _ _ ((KeepsOthers.alloc _ _).from _) (KeepsWalks.alloc _ _) ⟨⟨v, hv.alloc _, hrow.alloc _, hnil⟩, hB.alloc hB.size _⟩ ⟨W.heap.size, hv.lt, World.alloc_heap_new W _, rfl⟩
  case body =>
    rintro l pre x a' W hl ⟨r, hr⟩ ⟨⟨v, hv, hrow, hnil⟩, hB⟩ ⟨Bx, hBx, bX, rfl⟩ hlt
    have hc := hv.cell
    have c0 : W.cell? ⟨Bx, 0, none⟩ = some (.string x.1) := by unfold World.cell?; rw [bX]; rfl
    have c1 : W.cell? ⟨Bx, 1, none⟩ = some (.string x.2) := by unfold World.cell?; rw [bX]; rfl
    have hsz := hB.size
    unfold plV
    gi_wp2_with (gi_at_builtin; refine wpListIn_append_own _ rfl _ _ 70 rfl w.heap.size 73 i0 _ 2 32 Tryd.underlying70 hi hz0 hz1 hz2 rfl (by decide) _ _ _ rfl (hrow.alloc _) ⟨W.heap.size, 0, none⟩ 1 1 (encPl x) rfl rfl (cell_two_new _ _ _) (by simp [Value.oneCell', encPl]) (by omega) (by omega) (by simp; omega) ?_; intro v' w1 hown' hgrow _; obtain ⟨g', cap', rfl⟩ := ownsRow_succ hown'; obtain ⟨hv1, hv2, hr2, hk2, hb2⟩ := hv.appended (by decide) hrow hB.size (Nat.le_refl _) hown' hgrow; have hc1 := hv1.cell; have hf1 := hv1.frozen)
    exact ⟨hk2.from _, ⟨hk2.size, fun k o hk ho => hk2.same k o hk (by cases o <;> first | rfl | cases ho)⟩, ⟨_, hv2, by rw [List.length_append, List.flatMap_append, List.length_singleton]; simpa using hr2, by simp⟩, hB.trans hb2⟩
  case done =>
    rintro D ys W hD hS ⟨⟨v, hv, hrow, hnil⟩, hB⟩ hK
    have hc := hv.cell
    gi_wp2
    refine ⟨by simp, .inl ⟨_, _, rfl, run_takeDeferred hK, ?_⟩⟩
    exact ⟨_, results_tmp rfl _ _ _, v, ys, rfl, hS, ownsRow_putObj hrow _ hK rfl, hnil, hB.trans (belowK_b (w := w) (Nat.le_refl _) W D _ _ (by simp at hD; omega) hK rfl rfl)⟩
  case stop =>
    rintro D c pre W _ _ h _
    exact h.elim
end Go.Proofs.YtkpaklofdkjinaaDoor
namespace Go.Proofs.YtkpaklofdkjinaaDoor
open Go Go.Proofs Go.Shelf Go.RowKit Go.Lib Go.Sort Go.Abs
set_option maxHeartbeats 4000000
set_option maxRecDepth 100000
attribute [local go_sem] Oper.semAt_some
theorem cmpT_eq (x y : ByteArray) : cmpT x y = if ltN x y then -1 else if x = y then 0 else 1 := by
  unfold cmpT
  rw [lessS_eq, eqS_eq]
  have e : eqS x y = decide (x = y) := by
    rw [Bool.eq_iff_iff]; simp only [decide_eq_true_eq]
    unfold eqS
    rw [beq_iff_eq]
    exact ⟨fun q => ba_eq q, fun q => by rw [q]⟩
  rw [e]
  by_cases h : ltN x y
  · have h' : lessS x y = true := h
    rw [if_pos h, if_pos h']
  · have h' : lessS x y = false := by unfold ltN at h; simpa using h
    rw [if_neg h, h']
    by_cases h2 : x = y <;> simp [h2]
theorem cmpPl_lt (x y : Pl) : cmpPl x y < 0 ↔ ltP x y := by
  unfold cmpPl orI ltP
  rw [cmpT_eq, cmpT_eq]
  by_cases h1 : ltN x.1 y.1
  · simp [h1]
  · by_cases h2 : x.1 = y.1
    · by_cases h3 : ltN x.2 y.2
      · simp [h2, h3, ltN_irrefl]
      · by_cases h4 : x.2 = y.2 <;> simp [h2, h3, h4, ltN_irrefl]
    · simp [h1, h2]
theorem ltOf_iff (x y : Pl) : ltOf cmpPl x y = true ↔ ltP x y := by unfold ltOf; rw [decide_eq_true_eq, cmpPl_lt]
theorem ltOf_false (x y : Pl) : ltOf cmpPl x y = false ↔ ¬ ltP x y := by rw [← ltOf_iff]; simp
theorem swo : SWO (ltOf cmpPl) := by
  refine ⟨fun x => (ltOf_false x x).2 (ltP_irrefl x), fun x y z h k => (ltOf_iff x z).2 (ltP_trans ((ltOf_iff x y).1 h) ((ltOf_iff y z).1 k)), fun x y z h k => (ltOf_false x z).2 fun q => ?_⟩
  rw [ltOf_false] at h k
  rcases ltP_tri x y with e | e | e
  · exact h e
  · subst e; exact k q
  · exact k (ltP_trans e q)
theorem tot (x y : Pl) (h : ltOf cmpPl x y = false) (k : ltOf cmpPl y x = false) : x = y := by
  rw [ltOf_false] at h k
  rcases ltP_tri x y with e | e | e
  · exact (h e).elim
  · exact e
  · exact (k e).elim
def sortP (ss : List Pl) : List Pl := ss.mergeSort fun x y => !(ltOf cmpPl) y x
theorem sortP_perm (ss : List Pl) : (sortP ss).Perm ss := List.mergeSort_perm _ _
theorem sortP_rising {ss : List Pl} (hn : ss.Nodup) : Rising (sortP ss) := by
  have h := List.pairwise_mergeSort (le := fun x y => !(ltOf cmpPl) y x) (by
    intro a b c h k
    simp only [Bool.not_eq_true', ltOf_false] at h k ⊢
    intro q
    rcases ltP_tri b a with e | e | e
    · exact h e
    · subst e; exact k q
    · exact k (ltP_trans q e)) (by
    intro a b
    simp only [Bool.or_eq_true, Bool.not_eq_true', ltOf_false]
    by_cases q : ltP b a
    · exact .inr fun r => ltP_irrefl _ (ltP_trans q r)
    · exact .inl q) ss
  have hn' : (sortP ss).Nodup := (sortP_perm ss).nodup_iff.2 hn
  refine (List.pairwise_and_iff.2 ⟨h, hn'⟩).imp ?_
  rintro x y ⟨h1, h2⟩
  simp only [Bool.not_eq_true', ltOf_false] at h1
  rcases ltP_tri x y with e | e | e
  · exact e
  · exact (h2 e).elim
  · exact (h1 e).elim
theorem flatK_list (d : List Pl) : (flatK encPl 2 d.toArray).toList = d.flatMap encPl := by
  have hget : ∀ (d : List Pl) (t : Nat), (d.flatMap encPl)[t]? = (d[t / 2]?).map fun x => (encPl x)[t % 2]! := by
    intro d
    induction d with
    | nil => intro t; simp
    | cons x d ih =>
      intro t
      rw [List.flatMap_cons]
      match t with
      | 0 => simp [encPl]
      | 1 => simp [encPl]
      | t + 2 =>
        rw [List.getElem?_append_right (by simp [encPl])]
        have h1 : (t + 2) / 2 = t / 2 + 1 := by omega
        have h2 : (t + 2) % 2 = t % 2 := by omega
        rw [h1, h2, List.getElem?_cons_succ, ← ih]
        simp [encPl]
  apply List.ext_getElem?
  intro t
  rw [hget, Array.getElem?_toList]
  by_cases h : t < d.length * 2
  · have h2 : t / 2 < d.length := by omega
    simp [flatK, h, h2]
  · have h2 : d.length ≤ t / 2 := by omega
    rw [Array.getElem?_eq_none (by simp; omega), List.getElem?_eq_none h2]
    rfl
theorem flat_len2 (d : List Pl) : (d.flatMap encPl).length = d.length * 2 := by
  induction d with
  | nil => rfl
  | cons x d ih => simp [encPl, ih] at ih ⊢; omega
theorem sortedRow {W : World} {base g cap n : Nat} {os : Array Obj} {cur : Array Value} {ss ts : List Pl} (hl : ts.length = ss.length) (hbase : base ≤ g) (hb : W.heap[g]? = some (.cells cur 73 (0, 0))) (h1 : ss.length ≤ cap) (h2 : cap ≤ maxLen) (h3 : cur.size = cap * 2) :
    (sortWorldK encPl 2 W g 0 n ts.toArray os).ownsRow base 73 2 (.slice (some ⟨g, 0, none⟩) ss.length cap) ss.length (ts.flatMap encPl) := by
  have hlt := (Array.getElem?_eq_some_iff.1 hb).1
  refine ⟨by rw [flat_len2, hl], .inr ⟨g, cap, putCells id 0 (flatK encPl 2 ts.toArray) cur, rfl, hbase, ?_, h1, h2, by simp [putCells, h3], ?_⟩⟩
  · unfold sortWorldK
    rw [heap_grow_old _ _ (by simpa [putRowK, putRow, mapBlock, Sort.ahead] using hlt)]
    simp [putRowK, putRow, mapBlock, Sort.ahead, Array.getElem?_modify, hb, onCells]
  · have hf := flatK_list ts
    apply List.ext_getElem?
    intro j
    by_cases hj : j < ss.length * 2
    · rw [List.getElem?_take_of_lt hj, Array.getElem?_toList]
      have hjs : j < (flatK encPl 2 ts.toArray).size := by simp; omega
      have hjc : j < cur.size := by omega
      rw [← hf, Array.getElem?_toList]
      have hjt : j < ts.length * 2 := by omega
      have hgt : (flatK encPl 2 ts.toArray)[j]? = some (flatK encPl 2 ts.toArray)[j]! := by rw [Array.getElem?_eq_getElem hjs, getElem!_pos (flatK encPl 2 ts.toArray) j hjs]
      rw [hgt]
      simp [putCells, hjc, hjt]
    · rw [List.getElem?_take_eq_none (by omega), List.getElem?_eq_none (by rw [flat_len2]; omega)]
theorem col45 (F : Fence) (n : Nat) (h45 : F.fn 45) (h63 : F.fn 63) (hro : F.round = none) (hn : 3 ≤ n) (g : Nat) (lb : Array Value) (hFg : F.fn g) (eg : ∀ args w, (callFunc g args).run Tryd.prog w = .ok (.enter g args) w) (S : List Pl → Prop) (N : Nat) (hN : N ≤ maxLen) (hNb : N * 32 ≤ 140737488355328) (w : World)
    (hseq : SeqStopsK F (n - 1 - 1) Tryd.prog g lb (fun x : Pl => #[plV x]) KeepsWalks S (fun _ => True) N w) :
    CallsIn F n Tryd.prog 45 #[.func (.func g) #[] lb] w fun e w' => ∃ (v : Value) (ss : List Pl), e = .returned v ∧ S ss ∧ w'.ownsRow w.heap.size 73 2 v ss.length (ss.flatMap encPl) ∧ (v = .slice none 0 0 ↔ ss = []) ∧ Below w.heap.size w w' := by
  have h1 : 1 ≤ n := by omega
  refine callsIn_of_wp Tryd.func45 rfl h45 ?_ hro
  simp only [Tryd.ntmps45, List.size_toArray, List.length_cons, List.length_nil, Nat.reduceAdd, Nat.reduceSub, Array.replicate_succ, Array.replicate_zero, List.push_toArray, List.append_toArray, List.nil_append, List.cons_append]
  gi_wp2_with (gi_at_call 63; refine (seq63 F (n - 1) h63 hro (by omega) g lb hFg eg S N hN hNb _ hseq).mono ?_; rintro e w' ⟨v, ss, rfl, hS, hrow, hnil, hb⟩)
  go_ret
  exact ⟨v, ss, rfl, hS, hrow, hnil, hb⟩
theorem sorted26 (g : Nat) (lb : Array Value) (eg : ∀ args w, (callFunc g args).run Tryd.prog w = .ok (.enter g args) w) (S : List Pl → Prop) (N : Nat) (hN : N ≤ maxLen) (hNb : N * 32 ≤ 140737488355328) (w : World)
    (hseq : SeqStopsK Fence.wide 4 Tryd.prog g lb (fun x : Pl => #[plV x]) KeepsWalks S (fun _ => True) N w) (hlen : ∀ ss, S ss → ss.length ≤ N) :
    Calls Tryd.prog 26 #[.func (.func g) #[] lb, .func (.func 28) #[] #[]] w fun e w' => ∃ (v : Value) (ss : List Pl), e = .returned v ∧ S ss ∧ w'.ownsRow w.heap.size 73 2 v ss.length ((sortP ss).flatMap encPl) ∧ (v = .slice none 0 0 ↔ ss = []) ∧ Below w.heap.size w w' := by
  go_enter Tryd.func26, Tryd.ntmps26
  go_wp2_with (go_at_call 45; refine (callsIn_wide.1 (col45 Fence.wide 6 trivial trivial rfl (by omega) g lb trivial eg S N hN hNb _ hseq)).mono ?_; rintro e W ⟨v, ss, rfl, hS, hrow, hnil, hb⟩)
  rcases hrow.2 with ⟨rfl, hz⟩ | ⟨gb, cap, cur, rfl, hbase, hgb, r1, r2, r3, r4⟩
  · have hss : ss = [] := List.eq_nil_of_length_eq_zero hz
    subst hss
    go_wp2_with (go_at_call 46; refine (AnyF.slices_SortFunc_none Tryd.lays46 none 0 _ W).mono ?_; rintro e w' ⟨rfl, rfl⟩)
    go_ret
    exact ⟨.slice none 0 0, [], rfl, hS, by simpa [sortP] using hrow, by simp, hb⟩
  · have hl := hlen ss hS
    have hgl : gb < W.heap.size := (Array.getElem?_eq_some_iff.1 hgb).1
    have hH : HoldsK encPl 2 W gb 0 ss.toArray := by
      intro j hj
      have hf := flatK_list ss
      have hj2 : j < ss.length * 2 := by simpa using hj
      have hjc : j < cur.size := by omega
      have h4 : cur[j]? = (ss.flatMap encPl)[j]? := by rw [← r4, List.getElem?_take_of_lt hj2, Array.getElem?_toList]
      rw [← hf, Array.getElem?_toList] at h4
      refine ⟨?_, ?_⟩
      · unfold World.cell?
        rw [hgb]
        show cur[0 + j]? = some (flatK encPl 2 ss.toArray)[j]!
        rw [Nat.zero_add, h4, Array.getElem?_eq_getElem hj, getElem!_pos (flatK encPl 2 ss.toArray) j hj]
      · unfold World.frozen?
        rw [hgb]
        simp
    have hcon := AnyQ.slices_SortFunc_total Tryd.lays46 2 Tryd.isAgg73 Tryd.sizeOf73 encPl (fun _ => rfl) (fun x v hv => by simp [encPl] at hv; rcases hv with rfl | rfl <;> rfl) cmpPl swo 28 #[] gb 0 cap ss.toArray W (enters_of Tryd.func28 (by kernel_rfl) rfl) (lays28 _ _ _ _) hH hgl (by simp; omega) tot
    change Calls Tryd.prog 46 _ _ _ at hcon
    simp only [List.size_toArray] at hcon
    clear hH
    go_wp2_with (go_at_call 46; refine hcon.mono ?_; rintro e w' ⟨rfl, m, os, rfl⟩)
    go_ret
    have hsr := sortedRow (n := m) (os := os) (ss := ss) (ts := sortP ss) (sortP_perm ss).length_eq hbase hgb r1 r2 r3
    refine ⟨_, ss, rfl, hS, hsr, hnil, ?_⟩
    refine hb.trans ⟨rfl, rfl, rfl, by simp [sortWorldK, grow, putRowK, putRow, mapBlock, Sort.ahead], fun k hk => ?_⟩
    have hkl := hb.size
    unfold sortWorldK
    rw [heap_grow_old _ _ (by simpa [putRowK, putRow, mapBlock, Sort.ahead] using (by omega))]
    have hne : gb ≠ k := by omega
    simp [putRowK, putRow, mapBlock, Sort.ahead, Array.getElem?_modify, hne]
end Go.Proofs.YtkpaklofdkjinaaDoor
namespace Go.Proofs.YtkpaklofdkjinaaDoor
open Go Go.Abs Go.RowKit Go.Shelf
set_option maxRecDepth 100000
set_option maxHeartbeats 1000000
theorem makes_row {α : Type} {E : Enc α} {P : Program} {f : FuncId} {args : List Value} {h : Heap} {n : Nat} {e : TypeId} {xs : List α} (hfl : ((E.row xs).all flat) = true)
    (c : ∀ μ args' w, ARel μ args.toArray args' → Rel P μ h n w → Calls P f args' w fun e' w' => ∃ v, e' = .returned v ∧ w'.ownsRow w.heap.size e E.k v xs.length (E.row xs) ∧ (v = .slice none 0 0 ↔ xs = []) ∧ Below w.heap.size w w') :
    Makes P f args h n [] fun v h' _ => OwnRow E e h h' v xs := by
  refine Makes.free fun hf => ?_
  intro μ args' w ha hr
  refine (c μ args' w ha hr).mono ?_
  rintro e' w' ⟨v, rfl, hrow, hnil, hb⟩
  have hobj : ∀ b o, h.get b = some o → ∃ m x, μ b = some m ∧ w'.heap[m.blk]? = some x ∧ ORel μ o x m := by
    intro b o ho
    obtain ⟨m, x, h1, h2, h3⟩ := hr.obj b o ho
    exact ⟨m, x, h1, by rw [hb.block _ (Array.getElem?_eq_some_iff.1 h2).1]; exact h2, h3⟩
  have hr' : Rel P μ h n w' := ⟨hobj, hr.sep, hr.bound, hr.glob⟩
  have hg' : Grow μ h w μ h w' := ⟨μ.le_refl, hb.size, hb.os, hb.tape, hb.output, fun c hc _ => hb.block c hc, fun b' o' m' a b c _ => ⟨b', o', m', a, b, c, rfl⟩⟩
  by_cases hx : xs = []
  · have hv := hnil.2 hx
    subst hv
    exact ⟨μ, h, n, .ret (.slice none 0 0), .ret .snil, hr', hg', Nat.le_refl _, _, rfl, .refl _ _, Nat.le_refl _, by rw [hx]; exact .nil⟩
  · rcases hrow.2 with ⟨hv, _⟩ | ⟨g, cap, cur, rfl, hbase, hgb, r1, r2, r3, r4⟩
    · exact (hx (hnil.1 hv)).elim
    · have hlen : 0 < xs.length := List.length_pos_iff.2 hx
      have hnone := hr.bound n (Nat.le_refl _)
      have hle : μ.le (μ.set n ⟨g, 0, cap * E.k, E.k⟩) := Mu.le_set hnone
      have hold : ∀ b o m, h.get b = some o → μ b = some m → m.blk < w.heap.size := by
        intro b o m' e1 e2
        obtain ⟨m0, x0, f1, f2, _⟩ := hr.obj b o e1
        rw [e2] at f1; cases f1
        exact (Array.getElem?_eq_some_iff.1 f2).1
      have hor : ORel (μ.set n ⟨g, 0, cap * E.k, E.k⟩) (.cells (E.row xs) true ⟨e, E.k, false⟩) (.cells cur e (0, 0)) ⟨g, 0, cap * E.k, E.k⟩ := by
        refine ⟨r3.symm, ?_, ?_, ?_, rfl, rfl, fun q => by cases q⟩
        · rw [E.row_length, Nat.zero_add, r3, Nat.mul_comm E.k]
          exact Nat.mul_le_mul_right _ r1
        · intro i v hi
          refine ⟨v, ?_, .flat_self (List.all_eq_true.1 hfl v (List.mem_of_getElem? hi))⟩
          rw [← r4] at hi
          have hlt := (List.getElem?_eq_some_iff.1 hi).1
          simp only [List.length_take] at hlt
          rw [List.getElem?_take_of_lt (by omega), Array.getElem?_toList] at hi
          rw [Nat.zero_add]; exact hi
        · intro _ i _ _ hq; omega
      refine ⟨μ.set n ⟨g, 0, cap * E.k, E.k⟩, h.set n (.cells (E.row xs) true ⟨e, E.k, false⟩), n + 1, .ret (.slice (some ⟨n, 0, none⟩) xs.length U), ?_, ?_, ?_, Nat.le_succ _, _, rfl, ?_, Nat.le_succ _, ?_⟩
      · have hv := VRel.slice (μ := μ.set n ⟨g, 0, cap * E.k, E.k⟩) (b := n) 0 xs.length U cap (Mu.set_same _ _ _) (.inr ⟨rfl, r1, by simp⟩)
        exact .ret hv
      · refine ⟨?_, ?_, ?_, ?_⟩
        · intro b o ho
          rw [Trie.get_set] at ho
          by_cases hbn : b = n
          · subst hbn
            rw [if_pos rfl] at ho
            cases ho
            exact ⟨_, _, Mu.set_same _ _ _, hgb, hor⟩
          · rw [if_neg hbn] at ho
            obtain ⟨m, x, h1, h2, h3⟩ := hobj b o ho
            exact ⟨m, x, by rw [Mu.set_ne _ _ hbn]; exact h1, h2, h3.mono hle⟩
        · intro b b' o o' m m' e1 e2 e3 e4 e5 e6
          rw [Trie.get_set] at e1 e4
          by_cases hbn : b = n
          · subst hbn
            rw [Mu.set_same] at e5
            cases e5
            rw [if_neg (Ne.symm e3)] at e4
            rw [Mu.set_ne _ _ (Ne.symm e3)] at e6
            have := hold b' o' m' e4 e6
            simp only; omega
          · rw [if_neg hbn] at e1
            rw [Mu.set_ne _ _ hbn] at e5
            by_cases hbn' : b' = n
            · subst hbn'
              rw [Mu.set_same] at e6
              cases e6
              have := hold b o m e1 e5
              simp only; omega
            · rw [if_neg hbn'] at e4
              rw [Mu.set_ne _ _ hbn'] at e6
              exact hr.sep b b' o o' m m' e1 e2 e3 e4 e5 e6
        · intro b hb'
          rw [Mu.set_ne _ _ (by omega)]
          exact hr.bound b (by omega)
        · intro gl hgl
          obtain ⟨m, q1, q2⟩ := hr.glob gl hgl
          have : gl ≠ n := by have := hr.globs; omega
          exact ⟨m, by rw [Mu.set_ne _ _ this]; exact q1, q2⟩
      · refine ⟨hle, hb.size, hb.os, hb.tape, hb.output, fun c hc _ => hb.block c hc, ?_⟩
        intro b' o' m' e1 e2 e3 e4
        rw [Trie.get_set] at e1
        by_cases hbn : b' = n
        · subst hbn
          rw [Mu.set_same] at e3
          cases e3
          simp only at e4
          omega
        · rw [if_neg hbn] at e1
          rw [Mu.set_ne _ _ hbn] at e3
          exact ⟨b', o', m', e1, e2, e3, rfl⟩
      · exact .of_sub (sub_alloc hf) _
      · exact .inr ⟨n, U, ⟨e, E.k, false⟩, rfl, Trie.get_set_same _ _ _, hf n (Nat.le_refl _), rfl, ⟨hlen, Nat.le_trans r1 (Nat.le_trans r2 (by decide))⟩, .inl ⟨rfl, rfl⟩⟩
def encPlE : Enc Pl := ⟨2, encPl, fun _ => rfl, by decide⟩
theorem encPlE_flat (xs : List Pl) : ((encPlE.row xs).all flat) = true := by
  rw [List.all_eq_true]
  intro v hv
  obtain ⟨x, _, hx⟩ := List.mem_flatMap.1 hv
  simp [encPlE, encPl] at hx
  rcases hx with rfl | rfl <;> rfl
def keysP {ν : Type} (L : List (Pl × ν × Nat)) : List Pl := sortP (L.map fun x => x.1)
theorem sortP_congr {a b : List Pl} (hp : a.Perm b) (hn : b.Nodup) : sortP a = sortP b :=
  (sortP_rising (hp.nodup_iff.2 hn)).eq (sortP_rising hn) ((sortP_perm a).trans (hp.trans (sortP_perm b).symm))
def unPl (v : Value) : Pl := match v with
  | .agg c => match c.toList with
    | [.string s, .string t] => (s, t)
    | _ => (⟨#[]⟩, ⟨#[]⟩)
  | _ => (⟨#[]⟩, ⟨#[]⟩)
theorem plV_perm {a b : List Pl} (h : (a.map plV).Perm (b.map plV)) : a.Perm b := by
  have inv : ∀ x : Pl, unPl (plV x) = x := fun _ => rfl
  have := h.map unPl
  simpa only [List.map_map, Function.comp_def, inv, List.map_id'] using this
theorem f26_47 {ν : Type} {V : ν → Value} {h : Heap} {n B m ck : Nat} {own : Bool} {ci : CI} {L : List (Pl × ν × Nat)} (hB : h.get B = some (.cells [.map (some m)] own ci)) (hw : ci.whole = true) (hm : h.get m = some (.map (mapE plV V L) ck)) (ok : MOk L ck) (hlen : L.length ≤ 1000000000000) :
    Makes Tryd.prog 26 [.func (.func 47) #[] #[.pointer (some ⟨B, 0, none⟩)], .func (.func 28) #[] #[]] h n [] fun v h' _ => OwnRow encPlE 73 h h' v (keysP L) := by
  refine makes_row (encPlE_flat _) ?_
  intro μ args' w ha hr
  obtain ⟨a0, e0, v0⟩ := ha.get (i := 0) rfl
  obtain ⟨a1, e1, v1⟩ := ha.get (i := 1) rfl
  have hsz : args'.size = 2 := ha.1.symm
  have hargs : args' = #[a0, a1] := by
    apply Array.ext_getElem?
    intro i
    match i with
    | 0 => rw [e0]; rfl
    | 1 => rw [e1]; rfl
    | i + 2 => rw [Array.getElem?_eq_none (by omega), Array.getElem?_eq_none (by simp)]
  subst hargs
  obtain ⟨mB, xB, q1, q2, q3⟩ := hr.obj B _ hB
  obtain ⟨mM, xM, p1, p2, p3⟩ := hr.obj m _ hm
  have hv1 : a1 = .func (.func 28) #[] #[] := v1.flat_eq rfl
  subst hv1
  cases v0 with
  | func fn hfs hcs hf' hc' =>
    rename_i f' c'
    have hf0 : f' = #[] := Array.eq_empty_of_size_eq_zero hfs.symm
    subst hf0
    obtain ⟨c0, hc0, hcv⟩ := (show ARel μ #[.pointer (some ⟨B, 0, none⟩)] c' from ⟨hcs, hc'⟩).get (i := 0) rfl
    have hc1 : c' = #[c0] := by
      apply Array.ext_getElem?
      intro i
      match i with
      | 0 => rw [hc0]; rfl
      | i + 1 => rw [Array.getElem?_eq_none (by rw [← hcs]; simp), Array.getElem?_eq_none (by simp)]
    subst hc1
    cases hcv with
    | ptr o hmu =>
      rw [q1] at hmu; cases hmu
      cases xB with
      | cells c el fr =>
        obtain ⟨g1, g2, g3, g4, g5, g6, g7⟩ := q3
        obtain ⟨hoff, hcl⟩ := g7 hw
        obtain ⟨vm, hvm, hvr⟩ := g3 0 _ rfl
        cases hvr with
        | map hmm =>
          rw [p1] at hmm; cases hmm
          cases xM with
          | map es clock =>
            obtain ⟨k0, k1, k2, rfl⟩ := p3
            have he : ERelM μ (mapE plV V L) es.toList := ERelM.of_get (by simpa using k1) (fun i e he => by simpa using k2 i e he)
            have hborn : es.toList.map (·.born) = L.map fun x => x.2.2 := by
              have : ∀ {a b : List MapEntry}, ERelM μ a b → b.map (·.born) = a.map (·.born) := by
                intro a b h; induction h with
                | nil => rfl
                | cons _ _ hb _ ih => simp [hb, ih]
              rw [this he]; simp [mapE]
            have hkey : es.toList.map (·.key) = (L.map fun x => x.1).map plV := by
              have : ∀ {a b : List MapEntry}, ERelM μ a b → (∀ e ∈ a, flat e.key = true) → b.map (·.key) = a.map (·.key) := by
                intro a b h; induction h with
                | nil => intro _; rfl
                | cons hk _ _ _ ih => intro hfl; simp [hk.flat_eq (hfl _ (List.mem_cons_self ..)), ih (fun e he => hfl e (List.mem_cons_of_mem _ he))]
              rw [this he (fun e he => by obtain ⟨x, _, rfl⟩ := List.mem_map.1 he; rfl)]
              simp [mapE]
            have hcellB : w.cell? ⟨mB.blk, mB.off + 0, none⟩ = some (.map (some mM.blk)) := by unfold World.cell?; rw [q2]; exact hvm
            rw [hoff, Nat.zero_add] at hcellB
            have hkeys : ∀ e ∈ es.toList, ∃ x : Pl, e.key = plV x := by
              intro e he2
              have : e.key ∈ es.toList.map (·.key) := List.mem_map.2 ⟨e, he2, rfl⟩
              rw [hkey] at this
              obtain ⟨x, _, hx⟩ := List.mem_map.1 this
              exact ⟨x, hx.symm⟩
            have hnd : (es.toList.map (·.born)).Nodup := by rw [hborn]; exact ok.stamps
            have hold : ∀ x ∈ es.toList, x.born < clock := by
              intro e he2
              have : e.born ∈ es.toList.map (·.born) := List.mem_map.2 ⟨e, he2, rfl⟩
              rw [hborn] at this
              obtain ⟨x, hx, hxe⟩ := List.mem_map.1 this
              rw [← hxe]; exact ok.lt x hx
            have hes : es.size = L.length := by have := congrArg List.length hborn; simpa using this
            have hblt : mB.blk < w.heap.size := (Array.getElem?_eq_some_iff.1 q2).1
            have hst := stops47 Fence.wide 4 trivial rfl (by omega) mB.blk mM.blk clock es hkeys hnd hold w hblt hcellB p2
            rw [hoff, Nat.zero_add]
            refine (sorted26 47 #[.pointer (some ⟨mB.blk, 0, none⟩)] (enters_of Tryd.func47 (by kernel_rfl) rfl) _ es.size (by rw [hes]; unfold maxLen; omega) (by rw [hes]; omega) w hst (fun ss hS => by have := hS.length_eq; simp at this; omega)).mono ?_
            rintro e' w' ⟨v, ss, rfl, hS, hrow, hnil, hb⟩
            have hp : (L.map fun x => x.1).Perm ss := plV_perm (by rw [← hkey]; exact hS)
            have hk : keysP L = sortP ss := (sortP_congr hp.symm ok.keys).symm
            refine ⟨v, rfl, ?_, ?_, hb⟩
            · rw [hk, (sortP_perm ss).length_eq]; exact hrow
            · rw [hnil, hk]
              exact ⟨fun e => by rw [e]; simp [sortP], fun e => by have := (sortP_perm ss).length_eq; rw [e] at this; exact List.eq_nil_of_length_eq_zero this.symm⟩
          | _ => exact p3.elim
      | _ => exact q3.elim
theorem f26_59 {ν : Type} {V : ν → Value} {h : Heap} {n B m ck : Nat} {own : Bool} {ci : CI} {L : List (Pl × ν × Nat)} (hB : h.get B = some (.cells [.map (some m)] own ci)) (hw : ci.whole = true) (hm : h.get m = some (.map (mapE plV V L) ck)) (ok : MOk L ck) (hlen : L.length ≤ 1000000000000) :
    Makes Tryd.prog 26 [.func (.func 59) #[] #[.pointer (some ⟨B, 0, none⟩)], .func (.func 28) #[] #[]] h n [] fun v h' _ => OwnRow encPlE 73 h h' v (keysP L) := by
  refine makes_row (encPlE_flat _) ?_
  intro μ args' w ha hr
  obtain ⟨a0, e0, v0⟩ := ha.get (i := 0) rfl
  obtain ⟨a1, e1, v1⟩ := ha.get (i := 1) rfl
  have hsz : args'.size = 2 := ha.1.symm
  have hargs : args' = #[a0, a1] := by
    apply Array.ext_getElem?
    intro i
    match i with
    | 0 => rw [e0]; rfl
    | 1 => rw [e1]; rfl
    | i + 2 => rw [Array.getElem?_eq_none (by omega), Array.getElem?_eq_none (by simp)]
  subst hargs
  obtain ⟨mB, xB, q1, q2, q3⟩ := hr.obj B _ hB
  obtain ⟨mM, xM, p1, p2, p3⟩ := hr.obj m _ hm
  have hv1 : a1 = .func (.func 28) #[] #[] := v1.flat_eq rfl
  subst hv1
  cases v0 with
  | func fn hfs hcs hf' hc' =>
    rename_i f' c'
    have hf0 : f' = #[] := Array.eq_empty_of_size_eq_zero hfs.symm
    subst hf0
    obtain ⟨c0, hc0, hcv⟩ := (show ARel μ #[.pointer (some ⟨B, 0, none⟩)] c' from ⟨hcs, hc'⟩).get (i := 0) rfl
    have hc1 : c' = #[c0] := by
      apply Array.ext_getElem?
      intro i
      match i with
      | 0 => rw [hc0]; rfl
      | i + 1 => rw [Array.getElem?_eq_none (by rw [← hcs]; simp), Array.getElem?_eq_none (by simp)]
    subst hc1
    cases hcv with
    | ptr o hmu =>
      rw [q1] at hmu; cases hmu
      cases xB with
      | cells c el fr =>
        obtain ⟨g1, g2, g3, g4, g5, g6, g7⟩ := q3
        obtain ⟨hoff, hcl⟩ := g7 hw
        obtain ⟨vm, hvm, hvr⟩ := g3 0 _ rfl
        cases hvr with
        | map hmm =>
          rw [p1] at hmm; cases hmm
          cases xM with
          | map es clock =>
            obtain ⟨k0, k1, k2, rfl⟩ := p3
            have he : ERelM μ (mapE plV V L) es.toList := ERelM.of_get (by simpa using k1) (fun i e he => by simpa using k2 i e he)
            have hborn : es.toList.map (·.born) = L.map fun x => x.2.2 := by
              have : ∀ {a b : List MapEntry}, ERelM μ a b → b.map (·.born) = a.map (·.born) := by
                intro a b h; induction h with
                | nil => rfl
                | cons _ _ hb _ ih => simp [hb, ih]
              rw [this he]; simp [mapE]
            have hkey : es.toList.map (·.key) = (L.map fun x => x.1).map plV := by
              have : ∀ {a b : List MapEntry}, ERelM μ a b → (∀ e ∈ a, flat e.key = true) → b.map (·.key) = a.map (·.key) := by
                intro a b h; induction h with
                | nil => intro _; rfl
                | cons hk _ _ _ ih => intro hfl; simp [hk.flat_eq (hfl _ (List.mem_cons_self ..)), ih (fun e he => hfl e (List.mem_cons_of_mem _ he))]
              rw [this he (fun e he => by obtain ⟨x, _, rfl⟩ := List.mem_map.1 he; rfl)]
              simp [mapE]
            have hcellB : w.cell? ⟨mB.blk, mB.off + 0, none⟩ = some (.map (some mM.blk)) := by unfold World.cell?; rw [q2]; exact hvm
            rw [hoff, Nat.zero_add] at hcellB
            have hkeys : ∀ e ∈ es.toList, ∃ x : Pl, e.key = plV x := by
              intro e he2
              have : e.key ∈ es.toList.map (·.key) := List.mem_map.2 ⟨e, he2, rfl⟩
              rw [hkey] at this
              obtain ⟨x, _, hx⟩ := List.mem_map.1 this
              exact ⟨x, hx.symm⟩
            have hnd : (es.toList.map (·.born)).Nodup := by rw [hborn]; exact ok.stamps
            have hold : ∀ x ∈ es.toList, x.born < clock := by
              intro e he2
              have : e.born ∈ es.toList.map (·.born) := List.mem_map.2 ⟨e, he2, rfl⟩
              rw [hborn] at this
              obtain ⟨x, hx, hxe⟩ := List.mem_map.1 this
              rw [← hxe]; exact ok.lt x hx
            have hes : es.size = L.length := by have := congrArg List.length hborn; simpa using this
            have hblt : mB.blk < w.heap.size := (Array.getElem?_eq_some_iff.1 q2).1
            have hst := stops59 Fence.wide 4 trivial rfl (by omega) mB.blk mM.blk clock es hkeys hnd hold w hblt hcellB p2
            rw [hoff, Nat.zero_add]
            refine (sorted26 59 #[.pointer (some ⟨mB.blk, 0, none⟩)] (enters_of Tryd.func59 (by kernel_rfl) rfl) _ es.size (by rw [hes]; unfold maxLen; omega) (by rw [hes]; omega) w hst (fun ss hS => by have := hS.length_eq; simp at this; omega)).mono ?_
            rintro e' w' ⟨v, ss, rfl, hS, hrow, hnil, hb⟩
            have hp : (L.map fun x => x.1).Perm ss := plV_perm (by rw [← hkey]; exact hS)
            have hk : keysP L = sortP ss := (sortP_congr hp.symm ok.keys).symm
            refine ⟨v, rfl, ?_, ?_, hb⟩
            · rw [hk, (sortP_perm ss).length_eq]; exact hrow
            · rw [hnil, hk]
              exact ⟨fun e => by rw [e]; simp [sortP], fun e => by have := (sortP_perm ss).length_eq; rw [e] at this; exact List.eq_nil_of_length_eq_zero this.symm⟩
          | _ => exact p3.elim
      | _ => exact q3.elim
end Go.Proofs.YtkpaklofdkjinaaDoor
namespace Go.Proofs.YtkpaklofdkjinaaDoor
open Go Go.Abs Go.RowKit Go.Shelf
set_option maxRecDepth 100000
set_option maxHeartbeats 4000000
/-! What nobody changes any more. -/
theorem makes_weaken {P : Program} {f : FuncId} {args : List Value} {h : Heap} {n : Nat} {S : List Nat} {R R' : Value → Heap → Nat → Prop} (c : Makes P f args h n S R)
    (q : ∀ v h2 n2, SubBut h h2 S → n ≤ n2 → Free h2 n2 → R v h2 n2 → ∃ h3, h3.weak h2 ∧ SubBut h h3 S ∧ R' v h3 n2) : Makes P f args h n S R' :=
  ACall.weaken c fun _ h' n' hn hf ⟨v, e, hs, hn2, r⟩ => let ⟨h3, w, s3, r3⟩ := q v h' n' hs hn2 hf r; ⟨h3, w, v, e, s3, hn2, r3⟩
theorem OwnRow.notmap {α : Type} {E : Enc α} {e : TypeId} {h0 h : Heap} {v : Value} {xs : List α} (q : OwnRow E e h0 h v xs) {g ck : Nat} {es : List MapEntry} (hg : h.get g = some (.map es ck)) : g ∉ blkOf v := fun hm => by
  rcases q with ⟨rfl, rfl | ⟨b', o, rfl⟩⟩ | ⟨b', cap, ci', rfl, h1, _⟩
  · simp [blkOf] at hm
  · simp [blkOf] at hm
  · simp only [blkOf] at hm
    split at hm
    · simp at hm
    · rw [List.mem_singleton] at hm
      subst hm
      rw [hg] at h1; cases h1
theorem makes_fz {α : Type} {E : Enc α} {P : Program} {f : FuncId} {args : List Value} {h : Heap} {n : Nat} {e : TypeId} {xs : List α} {S : List Nat} (c : Makes P f args h n S fun v h2 _ => OwnRow E e h h2 v xs) : Makes P f args h n S fun v h2 _ => FRow E h2 v xs :=
  makes_weaken c fun _ h2 _ hs _ _ q => let ⟨h3, w, fr, _, s3⟩ := q.freeze; ⟨h3, w, q.fresh hs s3, fr⟩
/-! A state. -/
def intV (x : Int) : Value := .int .i64 x
abbrev OV := Value × Value
def ownV (x : OV) : Value := .agg #[x.1, x.2]
def dOV : OV := (.slice none 0 0, .slice none 0 0)
abbrev FM := List (Pl × Int × Nat)
abbrev SM := List (Pl × OV × Nat)
abbrev SP := List (Pl × Ser × Nat)
theorem plEqB (x y : Pl) : (eqS x.1 y.1 && (eqS x.2 y.2 && true)) = decide (x = y) := by
  rw [Bool.eq_iff_iff]
  simp only [Bool.and_true, Bool.and_eq_true, eqS_of, decide_eq_true_eq]
  exact ⟨fun ⟨a, b⟩ => Prod.ext a b, fun e => by rw [e]; exact ⟨rfl, rfl⟩⟩
theorem keyPl : KeyT Tryd.prog 73 plV := by
  refine ⟨fun _ => rfl, by kernel_rfl, ?_, ?_, ?_⟩
  · rintro (_ | _) ⟨a, b⟩ <;> kernel_rfl
  · intro x y
    exact equal_struct (b := decide (x = y)) Tryd.underlying73 (by kernel_rfl) (by rw [← plEqB]; kernel_rfl)
  · rintro ⟨a, b⟩
    show Instr.sameBits 10000 (.agg #[.string a, .string b]) (.agg #[.string a, .string b]) = true
    unfold Instr.sameBits
    simp [Instr.sameBits]
    exact ⟨by show (a.data == a.data) = true; exact beq_self_eq_true _, by show (b.data == b.data) = true; exact beq_self_eq_true _⟩
def SMIs (h : Heap) (G : SM) (S : SP) : Prop := G.length = S.length ∧ ∀ (i : Nat) g s, G[i]? = some g → S[i]? = some s → g.1 = s.1 ∧ g.2.2 = s.2.2 ∧ FSer h g.2.1 s.2.1
theorem SMIs.keep {h h' : Heap} {G : SM} {S : SP} (q : SMIs h G S) (k : Keeps h h') : SMIs h' G S := ⟨q.1, fun i g s a b => let ⟨c, d, e⟩ := q.2 i g s a b; ⟨c, d, e.keep k⟩⟩
theorem SMIs.nil (h : Heap) : SMIs h [] [] := ⟨rfl, fun i g s a => by simp at a⟩
theorem SMIs.cons {h : Heap} {a : Pl × OV × Nat} {b : Pl × Ser × Nat} {G : SM} {S : SP} (q : SMIs h (a :: G) (b :: S)) : (a.1 = b.1 ∧ a.2.2 = b.2.2 ∧ FSer h a.2.1 b.2.1) ∧ SMIs h G S :=
  ⟨q.2 0 a b rfl rfl, by simpa using q.1, fun i g s x y => q.2 (i + 1) g s (by simpa using x) (by simpa using y)⟩
theorem SMIs.idx {h : Heap} : ∀ {G : SM} {S : SP}, SMIs h G S → ∀ k, midx G k = midx S k := by
  intro G
  induction G with
  | nil => intro S q k; have := q.1; cases S with
    | nil => rfl
    | cons => simp at this
  | cons a G ih =>
    intro S q k
    cases S with
    | nil => have := q.1; simp at this
    | cons b S =>
      obtain ⟨h1, h2⟩ := q.cons
      have := ih h2 k
      unfold midx at this ⊢
      rw [List.findIdx?_cons, List.findIdx?_cons, h1.1, this]
theorem SMIs.get {h : Heap} {G : SM} {S : SP} (q : SMIs h G S) (k : Pl) : (mget G k = none ∧ mget S k = none) ∨ ∃ v s, mget G k = some v ∧ mget S k = some s ∧ FSer h v s := by
  cases hm : midx G k with
  | none => exact .inl ⟨(midx_none hm).1, (midx_none (q.idx k ▸ hm)).1⟩
  | some i =>
    obtain ⟨v, st, h1, h2⟩ := midx_get hm
    obtain ⟨s, st', h3, h4⟩ := midx_get (q.idx k ▸ hm)
    exact .inr ⟨v, s, h2, h4, (q.2 i _ _ h1 h3).2.2⟩
theorem SMIs.look {h : Heap} {G : SM} {S : SP} (q : SMIs h G S) (k : Pl) : ∃ a1 c1 a2 c2, (mget G k).getD dOV = (.slice a1 ((mget S k).getD ([], [])).1.length c1, .slice a2 ((mget S k).getD ([], [])).2.length c2) ∧
    FRow encLab h (.slice a1 ((mget S k).getD ([], [])).1.length c1) ((mget S k).getD ([], [])).1 ∧ FRow encSmp h (.slice a2 ((mget S k).getD ([], [])).2.length c2) ((mget S k).getD ([], [])).2 := by
  rcases q.get k with ⟨e1, e2⟩ | ⟨⟨v1, v2⟩, s, e1, e2, f1, f2⟩
  · rw [e1, e2]; exact ⟨none, 0, none, 0, rfl, .nil, .nil⟩
  · rw [e1, e2]
    obtain ⟨a1, c1, rfl⟩ := (show FRow encLab h v1 s.1 from f1).slice
    obtain ⟨a2, c2, rfl⟩ := (show FRow encSmp h v2 s.2 from f2).slice
    exact ⟨a1, c1, a2, c2, rfl, f1, f2⟩
theorem SMIs.set {h : Heap} {G : SM} {S : SP} (q : SMIs h G S) (ck : Nat) (k : Pl) {v : OV} {s : Ser} (f : FSer h v s) : SMIs h (mset G ck k v) (mset S ck k s) := by
  have hi := q.idx k
  cases hm : midx G k with
  | none =>
    have hm2 := hi ▸ hm
    have e1 : mset G ck k v = G ++ [(k, v, ck)] := by unfold mset; rw [hm]
    have e2 : mset S ck k s = S ++ [(k, s, ck)] := by unfold mset; rw [hm2]
    rw [e1, e2]
    refine ⟨by simp [q.1], fun i g t x y => ?_⟩
    rcases Nat.lt_or_ge i G.length with hl | hl
    · rw [List.getElem?_append_left hl] at x
      rw [List.getElem?_append_left (by rw [← q.1]; exact hl)] at y
      exact q.2 i g t x y
    · rw [List.getElem?_append_right hl] at x
      rw [List.getElem?_append_right (by rw [← q.1]; exact hl), ← q.1] at y
      have : i - G.length = 0 := by have := (List.getElem?_eq_some_iff.1 x).1; simp at this; omega
      rw [this] at x y
      simp at x y
      subst x; subst y
      exact ⟨rfl, rfl, f⟩
  | some j =>
    have hm2 := hi ▸ hm
    have e1 : mset G ck k v = G.modify j fun x => (k, v, x.2.2) := by unfold mset; rw [hm]
    have e2 : mset S ck k s = S.modify j fun x => (k, s, x.2.2) := by unfold mset; rw [hm2]
    rw [e1, e2]
    refine ⟨by simp [q.1], fun i g t x y => ?_⟩
    rw [List.getElem?_modify] at x y
    cases hg : G[i]? with
    | none => rw [hg] at x; cases x
    | some g0 =>
      cases ht : S[i]? with
      | none => rw [ht] at y; cases y
      | some t0 =>
        rw [hg] at x; rw [ht] at y
        obtain ⟨c1, c2, c3⟩ := q.2 i g0 t0 hg ht
        by_cases hj : j = i
        · simp [hj] at x y; subst x; subst y; exact ⟨rfl, c2, f⟩
        · simp [hj] at x y; subst x; subst y; exact ⟨c1, c2, c3⟩
theorem SMIs.ok {h : Heap} {G : SM} {S : SP} (q : SMIs h G S) {ck : Nat} (o : MOk G ck) : MOk S ck := by
  have e1 : ∀ {G : SM} {S : SP}, SMIs h G S → (S.map fun x => x.1) = G.map fun x => x.1 := by
    intro G; induction G with
    | nil => intro S q; have := q.1; cases S with
      | nil => rfl
      | cons => simp at this
    | cons a G ih => intro S q; cases S with
      | nil => have := q.1; simp at this
      | cons b S => obtain ⟨h1, h2⟩ := q.cons; simp [ih h2, h1.1]
  have e2 : ∀ {G : SM} {S : SP}, SMIs h G S → (S.map fun x => x.2.2) = G.map fun x => x.2.2 := by
    intro G; induction G with
    | nil => intro S q; have := q.1; cases S with
      | nil => rfl
      | cons => simp at this
    | cons a G ih => intro S q; cases S with
      | nil => have := q.1; simp at this
      | cons b S => obtain ⟨h1, h2⟩ := q.cons; simp [ih h2, h1.2.1]
  refine ⟨fun x hx => ?_, by rw [e1 q]; exact o.keys, by rw [e2 q]; exact o.stamps⟩
  have : x.2.2 ∈ S.map fun x => x.2.2 := List.mem_map.2 ⟨x, hx, rfl⟩
  rw [e2 q] at this
  obtain ⟨y, hy, e⟩ := List.mem_map.1 this
  rw [← e]; exact o.lt y hy
theorem new_spec {h : Heap} {n : Nat}  :
    Makes Tryd.prog 11 [] h n ([]) (fun v h2 _ => ∃ b f g, v = .pointer (some ⟨b, 0, none⟩) ∧ h2.get b = some (.cells [.map (some f), .map (some g)] true ⟨69, 0, true⟩) ∧ h2.get f = some (.map (mapE plV intV []) 0) ∧ h2.get g = some (.map (mapE plV ownV []) 0) ∧ h.get b = none ∧ h.get f = none ∧ h.get g = none ∧ f ≠ g) := by
 refine Makes.free fun hf => ?_
 have hs : SubBut h h ([]) := .refl _ _
 have hn : n ≤ n := Nat.le_refl _
 have hf0 := hf
 refine Makes.of_bodyV (args := []) (vs := [undef, undef, undef, undef, undef]) Tryd.func11 rfl rfl ?_
 refine AWp.seq (AWp.rowV (l := _) pok ?_)
 refine sq.c (v := .pointer none) rfl rfl rfl rfl ?_
 refine sq.e (AWp.seq (AWp.rowV (l := _) pok ?_))
 have z_n : h.get n = none := hf0 _ hn
 refine sq.op rfl rfl (Does.makeMap hf) ?_
 rintro _ h2 n3 ⟨rfl, hb1⟩ s4 hn2 hf
 refine sq.w ?_
 have hs := hs.trans s4
 have hn := Nat.le_trans hn hn2
 have hb1 : h2.get n = some (.map (mapE plV intV ([] : List (Pl × Int × Nat))) 0) := hb1
 have e_n_n3 : n ≠ n3 := hf.ne hb1
 have z_n3 : h.get n3 = none := hf0 _ hn
 refine sq.op rfl rfl (Does.makeMap hf) ?_
 rintro _ h6 n7 ⟨rfl, hb5⟩ s8 hn2 hf
 refine sq.w ?_
 have hb1 := s8.sub _ _ hb1
 have hs := hs.trans s8
 have hn := Nat.le_trans hn hn2
 have hb5 : h6.get n3 = some (.map (mapE plV ownV ([] : List (Pl × OV × Nat))) 0) := hb5
 refine sq.c (v := .agg #[.map (some n), .map (some n3)]) rfl rfl (by kernel_rfl) rfl ?_
 have z_n7 : h.get n7 = none := hf0 _ hn
 refine sq.op rfl rfl (Does.box (cs := [.map (some n), .map (some n3)]) hf rfl rfl) ?_
 rintro _ h10 n11 ⟨rfl, hb9⟩ s12 hn2 hf
 refine sq.w ?_
 have hb1 := s12.sub _ _ hb1
 have hb5 := s12.sub _ _ hb5
 have hs := hs.trans s12
 have hn := Nat.le_trans hn hn2
 refine sq.c (v := .pointer (some ⟨n7, 0, none⟩)) rfl rfl rfl rfl ?_
 refine sq.e ?_
 refine AWp.ret ?_
 refine ⟨rfl, [.pointer (some ⟨n7, 0, none⟩)], rfl, .pointer (some ⟨n7, 0, none⟩), rfl, hs, hn, ?_⟩
 exact ⟨_, _, _, rfl, hb9, hb1, hb5, z_n7, z_n, z_n3, e_n_n3⟩
theorem fence_spec {h : Heap} {n : Nat} {b f g kf kg : Nat} {c : CI} (F : FM) (G : SM) (S : SP) (hb_ : h.get b = some (.cells [.map (some f), .map (some g)] true c)) (hf_ : h.get f = some (.map (mapE plV intV F) kf)) (hg_ : h.get g = some (.map (mapE plV ownV G) kg)) (okF : MOk F kf) (okG : MOk G kg) (hS : SMIs h G S) (ne_f_g : f ≠ g) (ten clu : ByteArray) :
    Tells Tryd.prog 21 [.pointer (some ⟨b, 0, none⟩), .string (ten), .string (clu)] h n (.int .i64 ((mget F (ten, clu)).getD 0)) := by
 refine Makes.tells (Makes.free fun hf => ?_)
 have hs : SubBut h h ([]) := .refl _ _
 have hn : n ≤ n := Nat.le_refl _
 have hf0 := hf
 refine Makes.of_bodyV (args := [.pointer (some ⟨b, 0, none⟩), .string (ten), .string (clu)]) (vs := [.pointer (some ⟨b, 0, none⟩), .string (ten), .string (clu), undef, undef, undef, undef, undef, undef, undef, undef, undef, undef, undef, undef, undef, undef]) Tryd.func21 rfl rfl ?_
 refine AWp.seq (AWp.rowV (l := _) pok ?_)
 refine sq.c (v := .int .i64 (0)) rfl rfl rfl rfl ?_
 refine sq.e (AWp.seq (AWp.seq (AWp.rowV (l := _) pok ?_)))
 refine sq.c (v := .pointer (some ⟨b, 0, none⟩)) rfl rfl rfl rfl ?_
 refine sq.c (v := .bool false) rfl rfl (by kernel_rfl) rfl ?_
 refine sq.e ?_
 refine AWp.condF rfl rfl ?_
 refine AWp.skip (AWp.seq (AWp.rowV (l := _) pok ?_))
 refine sq.c (v := .pointer (some ⟨b, 0, none⟩)) rfl rfl rfl rfl ?_
 refine sq.c (v := .pointer (some ⟨b, 0, none⟩)) rfl rfl rfl rfl ?_
 refine sq.c (v := .pointer (some ⟨b, 0, none⟩)) rfl rfl (by kernel_rfl) rfl ?_
 refine sq.c (v := .map (some f)) rfl rfl (ld1 (P := Tryd.prog) (t := 66) (p := 0) (v := .map (some f)) (by kernel_rfl) (by kernel_rfl) hb_ rfl) rfl ?_
 refine sq.c (v := .string (ten)) rfl rfl rfl rfl ?_
 refine sq.c (v := .string (clu)) rfl rfl rfl rfl ?_
 refine sq.c (v := .agg #[.string (ten), .string (clu)]) rfl rfl (by kernel_rfl) rfl ?_
 refine sq.c (v := .int .i64 (((mget F (ten, clu)).getD 0))) rfl rfl (lk (P := Tryd.prog) (K := plV) (V := intV) (kt := 73) (el := 2) (t := 66) (k := (ten, clu)) (d := (0 : Int)) Tryd.underlying66 keyPl (by kernel_rfl) rfl hf_) rfl ?_
 refine sq.c (v := .int .i64 (((mget F (ten, clu)).getD 0))) rfl rfl rfl rfl ?_
 refine sq.e ?_
 refine AWp.ret ?_
 refine ⟨rfl, [.int .i64 (((mget F (ten, clu)).getD 0))], rfl, .int .i64 (((mget F (ten, clu)).getD 0)), rfl, hs, hn, ?_⟩
 rfl
end Go.Proofs.YtkpaklofdkjinaaDoor
namespace Go.Proofs.YtkpaklofdkjinaaDoor
open Go Go.Abs Go.RowKit Go.Shelf
set_option maxRecDepth 100000
set_option maxHeartbeats 4000000
def keyA (ls : List Lab) : ByteArray := ⟨(keyB ls).toArray⟩
def keptV : List Samp → List Int → List Samp
  | x :: xs, v :: vs => if v = 1 then x :: keptV xs vs else keptV xs vs
  | _, _ => []
def badV (vs : List Int) : Int := ((vs.filter fun v => decide (v = 3 ∨ v = 4)).length : Nat)
theorem keptV_snoc : ∀ {xs : List Samp} {vs : List Int} {x : Samp} {v : Int}, xs.length = vs.length → keptV (xs ++ [x]) (vs ++ [v]) = keptV xs vs ++ (if v = 1 then [x] else [])
  | [], [], x, v, _ => by by_cases h : v = 1 <;> simp [keptV, h]
  | [], _ :: _, _, _, h => by simp at h
  | _ :: _, [], _, _, h => by simp at h
  | a :: xs, b :: vs, x, v, h => by
    have ih := @keptV_snoc xs vs x v (by simpa using h)
    simp only [List.cons_append, keptV]
    rw [ih]
    split <;> simp
theorem badV_snoc (vs : List Int) (v : Int) : badV (vs ++ [v]) = badV vs + (if v = 3 ∨ v = 4 then 1 else 0) := by
  unfold badV
  rw [List.filter_append, List.length_append]
  by_cases h : v = 3 ∨ v = 4
  · rw [if_pos h]; simp [h]
  · rw [if_neg h]; simp [h]
theorem badV_le (vs : List Int) : 0 ≤ badV vs ∧ badV vs ≤ (vs.length : Nat) := by
  unfold badV
  have := List.length_filter_le (fun v => decide (v = 3 ∨ v = 4)) vs
  omega
theorem keptV_le : ∀ (xs : List Samp) (vs : List Int), (keptV xs vs).length ≤ xs.length
  | [], vs => by simp [keptV]
  | _ :: _, [] => by simp [keptV]
  | a :: xs, b :: vs => by
    have := keptV_le xs vs
    simp only [keptV]
    split <;> simp only [List.length_cons] <;> omega
def wasOf (S : SP) (k : Pl) : List Samp := ((mget S k).getD ([], [])).2
def pPut (S : SP) (ten : ByteArray) (s : Ser) : List Samp × List Int := putS (wasOf S (ten, keyA s.1)) s.2
def pKept (S : SP) (ten : ByteArray) (s : Ser) : List Samp := keptV s.2 (pPut S ten s).2
def pBad (S : SP) (ten : ByteArray) (s : Ser) : Int := badV (pPut S ten s).2
def pS (S : SP) (ck : Nat) (ten : ByteArray) (s : Ser) : SP := if pKept S ten s = [] then S else mset S ck (ten, keyA s.1) (s.1, (pPut S ten s).1)
def pCk (S : SP) (ck : Nat) (ten : ByteArray) (s : Ser) : Nat := if pKept S ten s = [] then ck else mck S ck (ten, keyA s.1)
def OneS (N : Nat) (k : Pl) (s : Ser) : Prop := mayS s.2 = true ∧ s.2.length ≤ N ∧ (s.1.length ≤ 1200 ∧ ∀ y ∈ s.1, y.1.data.toList.length < 6000 ∧ y.2.data.toList.length < 6000) ∧ 0 < s.2.length ∧ mayB s.1 = true ∧ k.2 = keyA s.1 ∧ nameB k.1 = true
def InvS (N : Nat) (S : SP) : Prop := ∀ x ∈ S, OneS N x.1 x.2.1
theorem mget_mem {κ ν : Type} [DecidableEq κ] {L : List (κ × ν × Nat)} {k : κ} {v : ν} (h : mget L k = some v) : ∃ s, (k, v, s) ∈ L := by
  unfold mget at h
  cases e : L.find? (fun x => decide (x.1 = k)) with
  | none => rw [e] at h; cases h
  | some x =>
    rw [e] at h
    simp only [Option.map_some, Option.some.injEq] at h
    have h1 := List.mem_of_find?_eq_some e
    have h2 := List.find?_some e
    simp only [decide_eq_true_eq] at h2
    obtain ⟨a, b, c⟩ := x
    simp only at h h2
    subst h; subst h2
    exact ⟨c, h1⟩
theorem InvS.was {N : Nat} {S : SP} (q : InvS N S) (k : Pl) : mayS (wasOf S k) = true ∧ (wasOf S k).length ≤ N := by
  unfold wasOf
  cases e : mget S k with
  | none => exact ⟨rfl, Nat.zero_le _⟩
  | some v =>
    obtain ⟨s, hs⟩ := mget_mem e
    have := q _ hs
    exact ⟨this.1, this.2.1⟩
theorem InvS.was2 {N : Nat} {S : SP} (q : InvS N S) (k : Pl) : ((mget S k).getD ([], [])).1.length ≤ 1200 := by
  cases e : mget S k with
  | none => exact Nat.zero_le _
  | some v =>
    obtain ⟨s, hs⟩ := mget_mem e
    exact (q _ hs).2.2.1.1
theorem putFz {h : Heap} {n : Nat} {a a2 : Option Addr} {cp cp2 : Nat} (xs ys : List Samp) (hx : IsRow encSmp h (.slice a xs.length cp) xs) (hy : IsRow encSmp h (.slice a2 ys.length cp2) ys) (hm : mayS xs = true) (hlx : xs.length < 1000000000000) (hly : ys.length < 1000000000000) :
    Makes Tryd.prog 56 [.slice a (xs.length) cp, .slice a2 (ys.length) cp2] h n [] fun v h2 _ => ∃ v1 v2, v = .tuple #[v1, v2, .int .i64 0] ∧ FRow encSmp h2 v1 (putS xs ys).1 ∧ FRow encVer h2 v2 (putS xs ys).2 := by
  refine makes_weaken (put_spec xs ys hx hy hm hlx hly) ?_
  rintro v h2 n2 hs hn hf ⟨v1, v2, rfl, q1, q2, hd⟩
  obtain ⟨h3, w3, f1, _, s3⟩ := q1.freeze
  have q2' := q2.but s3 (fun c hc hm => hd c hm hc)
  obtain ⟨h4, w4, f2, _, s4⟩ := q2'.freeze
  refine ⟨h4, ?_, q2'.fresh (q1.fresh hs s3) s4, v1, v2, rfl, FRow.keep f1 (.of s4 q2'.ours), f2⟩
  intro b o e
  rcases w4 b o e with e1 | ⟨cs, ci, e1, rfl⟩
  · exact w3 b o e1
  · rcases w3 b _ e1 with e2 | ⟨cs2, ci2, e2, e3⟩
    · exact .inr ⟨cs, ci, e2, rfl⟩
    · cases e3
theorem cloneLFz {h : Heap} {n : Nat} {v : Value} (xs : List Lab) (hx : IsRow encLab h v xs) (hlen : xs.length < 1000000) : Makes Tryd.prog 31 [v] h n [] fun u h2 _ => FRow encLab h2 u xs := makes_fz (cloneL xs hx hlen)
theorem cloneSFz {h : Heap} {n : Nat} {v : Value} (xs : List Samp) (hx : IsRow encSmp h v xs) (hlen : xs.length < 1000000000000) : Makes Tryd.prog 34 [v] h n [] fun u h2 _ => FRow encSmp h2 u xs := makes_fz (cloneS xs hx hlen)
theorem key_spec {h : Heap} {n : Nat} {a : Option Addr} {cp : Nat} (ls : List Lab) (hl : IsRow encLab h (.slice a ls.length cp) ls) (hlen : ls.length ≤ 1200) (hsz : ∀ x ∈ ls, x.1.data.toList.length < 6000 ∧ x.2.data.toList.length < 6000) : Tells Tryd.prog 35 [.slice a (ls.length) cp] h n (.string (keyA ls)) := l28_spec ls hl hlen hsz
theorem putX_spec {h : Heap} {n : Nat} {b f g kf kg : Nat} {c : CI} (F : FM) (G : SM) (S : SP) (hb_ : h.get b = some (.cells [.map (some f), .map (some g)] true c)) (hf_ : h.get f = some (.map (mapE plV intV F) kf)) (hg_ : h.get g = some (.map (mapE plV ownV G) kg)) (okF : MOk F kf) (okG : MOk G kg) (hS : SMIs h G S) (ne_f_g : f ≠ g) {a a2 : Option Addr} {cp cp2 N : Nat} (ten : ByteArray) (ls : List Lab) (xs : List Samp) (hl : IsRow encLab h (.slice a ls.length cp) ls) (hx : IsRow encSmp h (.slice a2 xs.length cp2) xs) (hsm : Small (ls, xs)) (hinv : InvS N S) (hN : N < 1000000000000) :
    Makes Tryd.prog 30 [.pointer (some ⟨b, 0, none⟩), .string (ten), .agg #[.slice a (ls.length) cp, .slice a2 (xs.length) cp2]] h n ([g]) (fun v h2 _ => ∃ v1 G2, v = .tuple #[v1, .int .i64 (pBad S ten (ls, xs))] ∧ OwnRow encSmp 53 h h2 v1 (pKept S ten (ls, xs)) ∧ h2.get g = some (.map (mapE plV ownV G2) (pCk S kg ten (ls, xs))) ∧ MOk G2 (pCk S kg ten (ls, xs)) ∧ SMIs h2 G2 (pS S kg ten (ls, xs))) := by
 refine Makes.free fun hf => ?_
 have ne_b_f : b ≠ f := by intro e; subst e; rw [hb_] at hf_; cases hf_
 have ne_b_g : b ≠ g := by intro e; subst e; rw [hb_] at hg_; cases hg_
 have hNC : NoCells h [g] := .cons hg_ (.nil h)
 have hKS : Ours h [g] := .cons hg_ rfl (.nil h)
 have hs1 : ls.length ≤ 1200 := hsm.1
 have hs2 : xs.length < 6000 := hsm.2.1
 obtain ⟨P, hP⟩ : ∃ P, P = pPut S ten (ls, xs) := ⟨_, rfl⟩
 have hPl : P.2.length = xs.length := by rw [hP]; exact (putS_len _ _).1
 have hs : SubBut h h ([g]) := .refl _ _
 have hn : n ≤ n := Nat.le_refl _
 have hf0 := hf
 refine Makes.of_bodyV (args := [.pointer (some ⟨b, 0, none⟩), .string (ten), .agg #[.slice a (ls.length) cp, .slice a2 (xs.length) cp2]]) (vs := [.pointer (some ⟨b, 0, none⟩), .string (ten), .agg #[.slice a (ls.length) cp, .slice a2 (xs.length) cp2], undef, undef, undef, undef, undef, undef, undef, undef, undef, undef, undef, undef, undef, undef, undef, undef, undef, undef, undef, undef, undef, undef, undef, undef, undef, undef, undef, undef, undef, undef, undef, undef, undef, undef, undef, undef, undef, undef, undef, undef, undef, undef, undef, undef, undef, undef, undef, undef, undef, undef, undef, undef, undef, undef, undef, undef, undef, undef, undef, undef, undef, undef, undef, undef, undef, undef, undef, undef, undef, undef, undef, undef, undef]) Tryd.func30 rfl rfl ?_
 refine AWp.seq (AWp.rowV (l := _) pok ?_)
 have e_g_n : g ≠ n := hf.ne hg_
 refine sq.op rfl rfl (Does.box (cs := [.slice a (ls.length) cp, .slice a2 (xs.length) cp2]) hf rfl rfl) ?_
 rintro _ h2 n3 ⟨rfl, hb1⟩ s4 hn2 hf
 refine sq.w ?_
 have hS := hS.keep (.of0 s4)
 have hb_ := s4.sub _ _ hb_
 have hf_ := s4.sub _ _ hf_
 have hg_ := s4.sub _ _ hg_
 have hs := hs.trans (s4.mono (by simp))
 have hn := Nat.le_trans hn hn2
 refine sq.c (v := .slice none (0) (0)) rfl rfl rfl rfl ?_
 refine sq.c (v := .int .i64 (0)) rfl rfl rfl rfl ?_
 refine sq.e (AWp.seq (AWp.rowV (l := _) pok ?_))
 refine sq.c (v := .string (ten)) rfl rfl rfl rfl ?_
 refine sq.c (v := .pointer (some ⟨n, 0, none⟩)) rfl rfl (by kernel_rfl) rfl ?_
 refine sq.c (v := .slice a (ls.length) cp) rfl rfl (ld1 (P := Tryd.prog) (t := 40) (p := 0) (v := .slice a (ls.length) cp) (by kernel_rfl) (by kernel_rfl) hb1 rfl) rfl ?_
 refine sq.t (v := .string (keyA ls)) rfl (CallsF.fn rfl (by kernel_rfl) rfl rfl) (fun hf => key_spec _ (isRow_noc hl hs hNC) hsm.1 hsm.2.2) hf rfl ?_
 intro n5 hn2 hf
 have hn := Nat.le_trans hn hn2
 refine sq.c (v := .agg #[.string (ten), .string (keyA ls)]) rfl rfl (by kernel_rfl) rfl ?_
 have e_b_n5 : b ≠ n5 := hf.ne hb_
 have e_f_n5 : f ≠ n5 := hf.ne hf_
 have e_g_n5 : g ≠ n5 := hf.ne hg_
 have e_n_n5 : n ≠ n5 := hf.ne hb1
 have z_n5 : h.get n5 = none := hf0 _ hn
 refine sq.op rfl rfl (Does.alloc (cs := [.string (⟨#[]⟩), .string (⟨#[]⟩)]) hf (z := .agg #[.string (⟨#[]⟩), .string (⟨#[]⟩)]) (by kernel_rfl) rfl) ?_
 rintro _ h7 n8 ⟨rfl, hb6⟩ s9 hn2 hf
 refine sq.w ?_
 have hS := hS.keep (.of0 s9)
 have hb_ := s9.sub _ _ hb_
 have hf_ := s9.sub _ _ hf_
 have hg_ := s9.sub _ _ hg_
 have hb1 := s9.sub _ _ hb1
 have hs := hs.trans (s9.mono (by simp))
 have hn := Nat.le_trans hn hn2
 refine sq.op rfl rfl (Does.store (k := 2) (xs := [.string (ten), .string (keyA ls)]) (cs' := [.string (ten), .string (keyA ls)]) hf (by kernel_rfl) rfl rfl rfl hb6 rfl rfl (Nat.le_of_ble_eq_true rfl) rfl) ?_
 rintro _ h11 n12 ⟨rfl, hb10⟩ s13 hn2 hf
 refine sq.w0 ?_
 have hS := hS.keep (.own s13 hb6 rfl)
 have hb_ := s13.get1 (e_b_n5) hb_
 have hf_ := s13.get1 (e_f_n5) hf_
 have hg_ := s13.get1 (e_g_n5) hg_
 have hb1 := s13.get1 (e_n_n5) hb1
 have hs := hs.fresh z_n5 s13
 have hn := Nat.le_trans hn hn2
 refine sq.e (AWp.seq ?_)
 refine AWp.anyK pok [0, 1, 2, 3, 4, 5, 6, 7] (by kernel_rfl) (by kernel_rfl) rfl (fun x fr fr' h n hd _ q => ⟨hd ▸ q.1, q.2⟩) ?_
 refine dk.c (v := .pointer (some ⟨b, 0, none⟩)) rfl (by kernel_rfl) rfl rfl rfl rfl ?_
 refine dk.c (v := .pointer (some ⟨b, 0, none⟩)) rfl (by kernel_rfl) rfl rfl rfl rfl ?_
 refine dk.c (v := .pointer (some ⟨b, 1, none⟩)) rfl (by kernel_rfl) rfl rfl (by kernel_rfl) rfl ?_
 refine dk.gB (v := .map (some g)) b rfl (by kernel_rfl) rfl rfl (fun _ q_ => (ld1 (P := Tryd.prog) (t := 67) (p := 1) (v := .map (some g)) (by kernel_rfl) (by kernel_rfl) (q_ _ hb_) rfl)) rfl ?_
 refine dk.gB (v := .agg #[.string (ten), .string (keyA ls)]) n5 rfl (by kernel_rfl) rfl rfl (fun _ q_ => (ldA (P := Tryd.prog) (t := 73) (p := 0) (k := 2) (xs := [.string (ten), .string (keyA ls)]) (by kernel_rfl) (by kernel_rfl) (q_ _ hb10) rfl (Nat.le_of_ble_eq_true rfl))) rfl ?_
 obtain ⟨a1_g2_5, c1_g2_5, a2_g2_5, c2_g2_5, e_g2_5, L_g2_5, M_g2_5⟩ := hS.look (ten, keyA ls)
 refine dk.gB (v := .agg #[.slice a1_g2_5 ((mget S (ten, keyA ls)).getD ([], [])).1.length c1_g2_5, .slice a2_g2_5 ((mget S (ten, keyA ls)).getD ([], [])).2.length c2_g2_5]) g rfl (by kernel_rfl) rfl rfl (fun _ q_ => ((lk (P := Tryd.prog) (K := plV) (V := ownV) (kt := 73) (el := 86) (t := 67) (k := (ten, keyA ls)) (d := dOV) Tryd.underlying67 keyPl (by kernel_rfl) rfl (q_ _ hg_)).trans (congrArg (fun z => some (ownV z)) e_g2_5))) rfl ?_
 have e_b_n12 : b ≠ n12 := hf.ne hb_
 have e_f_n12 : f ≠ n12 := hf.ne hf_
 have e_g_n12 : g ≠ n12 := hf.ne hg_
 have e_n_n12 : n ≠ n12 := hf.ne hb1
 have e_n5_n12 : n5 ≠ n12 := hf.ne hb10
 have z_n12 : h.get n12 = none := hf0 _ hn
 refine dk.op rfl (by kernel_rfl) rfl rfl (Does.alloc (cs := [.slice none (0) (0), .slice none (0) (0)]) hf (z := .agg #[.slice none (0) (0), .slice none (0) (0)]) (by kernel_rfl) rfl) (keepC (by simp) (keepC (by simp) (keepC (by simp) keepN))) ?_
 rintro _ h15 n16 ⟨rfl, hb14⟩ s17 hn2 hf
 refine dk.w ?_
 have hS := hS.keep (.of0 s17)
 have L_g2_5 := L_g2_5.keep (.of0 s17)
 have M_g2_5 := M_g2_5.keep (.of0 s17)
 have hb_ := s17.sub _ _ hb_
 have hf_ := s17.sub _ _ hf_
 have hg_ := s17.sub _ _ hg_
 have hb1 := s17.sub _ _ hb1
 have hb10 := s17.sub _ _ hb10
 have hs := hs.trans (s17.mono (by simp))
 have hn := Nat.le_trans hn hn2
 refine dk.op rfl (by kernel_rfl) rfl rfl (Does.store (k := 2) (xs := [.slice a1_g2_5 ((mget S (ten, keyA ls)).getD ([], [])).1.length c1_g2_5, .slice a2_g2_5 ((mget S (ten, keyA ls)).getD ([], [])).2.length c2_g2_5]) (cs' := [.slice a1_g2_5 ((mget S (ten, keyA ls)).getD ([], [])).1.length c1_g2_5, .slice a2_g2_5 ((mget S (ten, keyA ls)).getD ([], [])).2.length c2_g2_5]) hf (by kernel_rfl) rfl rfl rfl hb14 rfl rfl (Nat.le_of_ble_eq_true rfl) rfl) (keepC (fun hm => e_g_n12 (List.mem_singleton.1 hm)) (keepC (fun hm => e_n5_n12 (List.mem_singleton.1 hm)) (keepC (fun hm => e_b_n12 (List.mem_singleton.1 hm)) keepN))) ?_
 rintro _ h19 n20 ⟨rfl, hb18⟩ s21 hn2 hf
 refine dk.w0 ?_
 have hS := hS.keep (.own s21 hb14 rfl)
 have L_g2_5 := L_g2_5.keep (.own s21 hb14 rfl)
 have M_g2_5 := M_g2_5.keep (.own s21 hb14 rfl)
 have hb_ := s21.get1 (e_b_n12) hb_
 have hf_ := s21.get1 (e_f_n12) hf_
 have hg_ := s21.get1 (e_g_n12) hg_
 have hb1 := s21.get1 (e_n_n12) hb1
 have hb10 := s21.get1 (e_n5_n12) hb10
 have hs := hs.fresh z_n12 s21
 have hn := Nat.le_trans hn hn2
 refine dk.e (AWp.seq (AWp.rowV (l := _) pok ?_))
 refine sq.c (v := .pointer (some ⟨n12, 1, none⟩)) rfl rfl (by kernel_rfl) rfl ?_
 refine sq.c (v := .slice a2_g2_5 ((mget S (ten, keyA ls)).getD ([], [])).2.length c2_g2_5) rfl rfl (ld1 (P := Tryd.prog) (t := 41) (p := 1) (v := .slice a2_g2_5 ((mget S (ten, keyA ls)).getD ([], [])).2.length c2_g2_5) (by kernel_rfl) (by kernel_rfl) hb18 rfl) rfl ?_
 refine sq.c (v := .pointer (some ⟨n, 1, none⟩)) rfl rfl (by kernel_rfl) rfl ?_
 refine sq.c (v := .slice a2 (xs.length) cp2) rfl rfl (ld1 (P := Tryd.prog) (t := 41) (p := 1) (v := .slice a2 (xs.length) cp2) (by kernel_rfl) (by kernel_rfl) hb1 rfl) rfl ?_
 refine sq.k rfl (CallsF.fn rfl (by kernel_rfl) rfl rfl) (putFz _ _ M_g2_5.is (isRow_noc hx hs hNC) (hinv.was (ten, keyA ls)).1 (by have := (hinv.was (ten, keyA ls)).2; unfold wasOf at this; omega) (by omega)) ?_
 rintro _ h22 n23 ⟨v1_, v2_, rfl, F_o, F_w⟩ s24 hn2 hf
 obtain ⟨a_o, c_o, rfl⟩ := F_o.slice
 obtain ⟨a_w, c_w, rfl⟩ := F_w.slice
 have e_P : putS ((mget S (ten, keyA ls)).getD ([], [])).2 xs = P := hP.symm
 rw [e_P] at F_o F_w ⊢
 refine sq.w ?_
 have hS := hS.keep (.of0 s24)
 have L_g2_5 := L_g2_5.keep (.of0 s24)
 have M_g2_5 := M_g2_5.keep (.of0 s24)
 have hb_ := s24.sub _ _ hb_
 have hf_ := s24.sub _ _ hf_
 have hg_ := s24.sub _ _ hg_
 have hb1 := s24.sub _ _ hb1
 have hb10 := s24.sub _ _ hb10
 have hb18 := s24.sub _ _ hb18
 have hs := hs.trans (s24.mono (by simp))
 have hn := Nat.le_trans hn hn2
 refine sq.c (v := .tuple #[.slice a_o (P.1.length) c_o, .slice a_w (P.2.length) c_w, .int .i64 (0)]) rfl rfl rfl rfl ?_
 refine sq.c (v := .slice a_o (P.1.length) c_o) rfl rfl rfl rfl ?_
 refine sq.c (v := .slice a_w (P.2.length) c_w) rfl rfl rfl rfl ?_
 refine sq.c (v := .int .i64 (0)) rfl rfl rfl rfl ?_
 refine sq.c (v := .slice a_o (P.1.length) c_o) rfl rfl rfl rfl ?_
 refine sq.c (v := .slice a_w (P.2.length) c_w) rfl rfl rfl rfl ?_
 refine sq.c (v := .int .i64 (0)) rfl rfl rfl rfl ?_
 refine sq.e (AWp.seq (AWp.rowV (l := _) pok ?_))
 refine sq.c (v := .slice none (0) (0)) rfl rfl rfl rfl ?_
 refine sq.e (AWp.seq (AWp.rowV (l := _) pok ?_))
 refine sq.c (v := .int .i64 (0)) rfl rfl rfl rfl ?_
 refine sq.e (AWp.seq (AWp.seq (AWp.rowV (l := _) pok ?_)))
 refine sq.c (v := .slice a_w (P.2.length) c_w) rfl rfl rfl rfl ?_
 refine sq.c (v := .int .i64 (((P.2.length : Nat) : Int))) rfl rfl (by kernel_rfl) rfl ?_
 refine sq.c (v := .int .i64 (0)) rfl rfl rfl rfl ?_
 refine sq.e (AWp.block ?_)
 refine AWp.loopV (fun d vs h26 n27 => ∃ (i bad : Int) (ks : List Samp) (a_k : Option Addr) (cp_k : Nat), d = ((P.2.length : Nat) - i + 1).toNat ∧ SubBut h h26 ([g]) ∧ n ≤ n27 ∧ Free h26 n27 ∧ h26.get b = some (.cells [.map (some f), .map (some g)] true c) ∧ h26.get f = some (.map (mapE plV intV F) kf) ∧ h26.get g = some (.map (mapE plV ownV G) kg) ∧ SMIs h26 G S ∧ h26.get n = some (.cells [.slice a (ls.length) cp, .slice a2 (xs.length) cp2] true ⟨43, 0, true⟩) ∧ h26.get n5 = some (.cells [.string (ten), .string (keyA ls)] true ⟨73, 0, true⟩) ∧ FRow encLab h26 (.slice a1_g2_5 ((mget S (ten, keyA ls)).getD ([], [])).1.length c1_g2_5) (((mget S (ten, keyA ls)).getD ([], [])).1) ∧ FRow encSmp h26 (.slice a2_g2_5 ((mget S (ten, keyA ls)).getD ([], [])).2.length c2_g2_5) (((mget S (ten, keyA ls)).getD ([], [])).2) ∧ h26.get n12 = some (.cells [.slice a1_g2_5 ((mget S (ten, keyA ls)).getD ([], [])).1.length c1_g2_5, .slice a2_g2_5 ((mget S (ten, keyA ls)).getD ([], [])).2.length c2_g2_5] true ⟨86, 0, true⟩) ∧ FRow encSmp h26 (.slice a_o (P.1.length) c_o) (P.1) ∧ FRow encVer h26 (.slice a_w (P.2.length) c_w) (P.2) ∧ OwnRow encSmp 53 h h26 (.slice a_k (ks).length cp_k) (ks) ∧ (∀ c ∈ blkOf (.slice a_k (ks).length cp_k), c ≠ b) ∧ (∀ c ∈ blkOf (.slice a_k (ks).length cp_k), c ≠ f) ∧ (∀ c ∈ blkOf (.slice a_k (ks).length cp_k), c ≠ g) ∧ (∀ c ∈ blkOf (.slice a_k (ks).length cp_k), c ≠ n) ∧ (∀ c ∈ blkOf (.slice a_k (ks).length cp_k), c ≠ n5) ∧ (∀ c ∈ blkOf (.slice a_k (ks).length cp_k), c ≠ n12) ∧ (0 ≤ i) ∧ (i ≤ (P.2.length : Nat)) ∧ (ks = keptV (xs.take i.toNat) (P.2.take i.toNat)) ∧ (bad = badV (P.2.take i.toNat)) ∧ ∃ y25 : Nat → Value, vs = [.pointer (some ⟨b, 0, none⟩), .string (ten), .agg #[.slice a (ls.length) cp, .slice a2 (xs.length) cp2], undef, undef, .pointer (some ⟨n, 0, none⟩), .slice none (0) (0), .int .i64 (0), .pointer (some ⟨n5, 0, none⟩), .pointer (some ⟨n12, 0, none⟩), .slice a_o (P.1.length) c_o, .slice a_w (P.2.length) c_w, .int .i64 (0), .slice a_k (ks.length) cp_k, .int .i64 (bad), (y25 15), (y25 16), .string (ten), .pointer (some ⟨n, 0, none⟩), .slice a (ls.length) cp, .string (keyA ls), .agg #[.string (ten), .string (keyA ls)], .pointer (some ⟨b, 0, none⟩), .pointer (some ⟨b, 0, none⟩), .pointer (some ⟨b, 1, none⟩), .map (some g), .agg #[.string (ten), .string (keyA ls)], .agg #[.slice a1_g2_5 ((mget S (ten, keyA ls)).getD ([], [])).1.length c1_g2_5, .slice a2_g2_5 ((mget S (ten, keyA ls)).getD ([], [])).2.length c2_g2_5], .tuple #[.slice a_o (P.1.length) c_o, .slice a_w (P.2.length) c_w, .int .i64 (0)], .pointer (some ⟨n12, 1, none⟩), .slice a2_g2_5 ((mget S (ten, keyA ls)).getD ([], [])).2.length c2_g2_5, .pointer (some ⟨n, 1, none⟩), .slice a2 (xs.length) cp2, .tuple #[.slice a_o (P.1.length) c_o, .slice a_w (P.2.length) c_w, .int .i64 (0)], .slice a_o (P.1.length) c_o, .slice a_w (P.2.length) c_w, .int .i64 (0), .slice a_w (P.2.length) c_w, .int .i64 (((P.2.length : Nat) : Int)), .int .i64 (i), (y25 40), (y25 41), (y25 42), (y25 43), (y25 44), (y25 45), (y25 46), (y25 47), (y25 48), (y25 49), (y25 50), (y25 51), (y25 52), (y25 53), (y25 54), (y25 55), (y25 56), (y25 57), (y25 58), (y25 59), (y25 60), undef, undef, undef, undef, undef, undef, undef, undef, undef, undef, undef, undef, undef, undef, undef]) (((P.2.length : Nat) - (0 : Int) + 1).toNat) ⟨0, 0, [], none, 0, rfl, hs, hn, hf, hb_, hf_, hg_, hS, hb1, hb10, L_g2_5, M_g2_5, hb18, F_o, F_w, OwnRow.nil, (by simp [blkOf]), (by simp [blkOf]), (by simp [blkOf]), (by simp [blkOf]), (by simp [blkOf]), (by simp [blkOf]), (by omega), (by omega), (by simp [keptV]), (by simp [badV]), getV [undef, undef, undef, undef, undef, undef, undef, undef, undef, undef, undef, undef, undef, undef, undef, undef, undef, undef, undef, undef, undef, undef, undef, undef, undef, undef, undef, undef, undef, undef, undef, undef, undef, undef, undef, undef, undef, undef, undef, undef, undef, undef, undef, undef, undef, undef, undef, undef, undef, undef, undef, undef, undef, undef, undef, undef, undef, undef, undef, undef, undef], rfl⟩ ?_
 rintro d vs h26 n27 ⟨i, bad, ks, a_k, cp_k, rfl, hs, hn, hf, hb_, hf_, hg_, hS, hb1, hb10, L_g2_5, M_g2_5, hb18, F_o, F_w, R_k, d_k_b, d_k_f, d_k_g, d_k_n, d_k_n5, d_k_n12, hi0, hi1, hks, hbd, y25, rfl⟩
 have hkl : ks.length ≤ xs.length := by rw [hks]; exact Nat.le_trans (keptV_le _ _) (by rw [List.length_take]; omega)
 have hbl := badV_le (P.2.take i.toNat)
 rw [← hbd, List.length_take] at hbl
 refine AWp.seq (AWp.rowV (l := _) pok ?_)
 refine sq.c (v := .bool (decide (i < (((P.2.length : Nat) : Int))))) rfl rfl rfl rfl ?_
 refine sq.e (AWp.seq ?_)
 by_cases c7_0 : i < (((P.2.length : Nat) : Int))
 ·rw [decide_eq_true c7_0]
  refine AWp.condT rfl rfl ?_
  refine AWp.skip (AWp.seq (AWp.block (AWp.seq (AWp.rowV (l := _) pok ?_))))
  refine sq.c (v := .int .i64 (i)) rfl rfl rfl rfl ?_
  have i34 : (0 : Int) ≤ (i : Int) := by omega
  obtain ⟨x35, hx_x35⟩ : ∃ x, (P.2)[((i : Int)).toNat]? = some x := ⟨_, List.getElem?_eq_getElem (by omega)⟩
  obtain ⟨b28, o29, cs_b28, ow_b28, ci_b28, ie33, hb30, hc31, hr32⟩ := IsRow.at (P := Tryd.prog) (t := 105) (e := 108) (k := .i64) (by kernel_rfl) (by kernel_rfl) F_w.is i34 hx_x35
  refine sq.c (v := .pointer (some ⟨b28, o29, none⟩)) rfl rfl ie33 rfl ?_
  refine sq.c (v := .int .u8 (x35)) rfl rfl (ld1 (P := Tryd.prog) (t := 108) (p := o29 + 0) (v := .int .u8 (x35)) (by kernel_rfl) (by kernel_rfl) hb30 (hc31 0 _ rfl)) rfl ?_
  refine sq.c (v := .int .i64 (i)) rfl rfl rfl rfl ?_
  refine sq.c (v := .int .u8 (x35)) rfl rfl rfl rfl ?_
  refine sq.e (AWp.block (AWp.seq (AWp.rowV (l := _) pok ?_)))
  refine sq.c (v := .int .u8 (x35)) rfl rfl rfl rfl ?_
  refine sq.c (v := .bool (decide (x35 = (1 : Int)))) rfl rfl rfl rfl ?_
  refine sq.c (v := .bool (decide (x35 = (1 : Int)))) rfl rfl rfl rfl ?_
  refine sq.e ?_
  by_cases c9_1 : x35 = (1 : Int)
  ·rw [decide_eq_true c9_1]
   refine AWp.condT rfl rfl ?_
   refine AWp.rowV (l := _) pok ?_
   refine sq.c (v := .slice a_k (ks.length) cp_k) rfl rfl rfl rfl ?_
   refine sq.c (v := .pointer (some ⟨n, 1, none⟩)) rfl rfl (by kernel_rfl) rfl ?_
   refine sq.c (v := .slice a2 (xs.length) cp2) rfl rfl (ld1 (P := Tryd.prog) (t := 41) (p := 1) (v := .slice a2 (xs.length) cp2) (by kernel_rfl) (by kernel_rfl) hb1 rfl) rfl ?_
   refine sq.c (v := .int .i64 (i)) rfl rfl rfl rfl ?_
   have i42 : (0 : Int) ≤ (i : Int) := by omega
   obtain ⟨x43, hx_x43⟩ : ∃ x, (xs)[((i : Int)).toNat]? = some x := ⟨_, List.getElem?_eq_getElem (by have := hPl; omega)⟩
   obtain ⟨b36, o37, cs_b36, ow_b36, ci_b36, ie41, hb38, hc39, hr40⟩ := IsRow.at (P := Tryd.prog) (t := 41) (e := 53) (k := .i64) (by kernel_rfl) (by kernel_rfl) (isRow_noc hx hs hNC) i42 hx_x43
   refine sq.c (v := .pointer (some ⟨b36, o37, none⟩)) rfl rfl ie41 rfl ?_
   refine sq.c (v := .agg #[.int .i64 (x43.1), .int .u64 (x43.2)]) rfl rfl (ldR (P := Tryd.prog) (t := 53) (k := 2) (xs := [.int .i64 (x43.1), .int .u64 (x43.2)]) (by kernel_rfl) (by kernel_rfl) hr40) rfl ?_
   have d_k_n27 : ∀ c ∈ blkOf (.slice a_k (ks).length cp_k), c ≠ n27 := fun c hc e => R_k.ne' (hf _ (Nat.le_refl _)) c hc (List.mem_singleton.2 e)
   refine sq.op rfl rfl (Does.build (e := 53) (cs := [.int .i64 (x43.1), .int .u64 (x43.2)]) hf (fun _ _ => by kernel_rfl)) ?_
   rintro _ h45 n46 ⟨rfl, hb44⟩ s47 hn2 hf
   refine sq.w ?_
   have hS := hS.keep (.of0 s47)
   have L_g2_5 := L_g2_5.keep (.of0 s47)
   have M_g2_5 := M_g2_5.keep (.of0 s47)
   have F_o := F_o.keep (.of0 s47)
   have F_w := F_w.keep (.of0 s47)
   have R_k := R_k.keep s47
   have hb_ := s47.sub _ _ hb_
   have hf_ := s47.sub _ _ hf_
   have hg_ := s47.sub _ _ hg_
   have hb1 := s47.sub _ _ hb1
   have hb10 := s47.sub _ _ hb10
   have hb18 := s47.sub _ _ hb18
   have hs := hs.trans (s47.mono (by simp))
   have hn := Nat.le_trans hn hn2
   have hz0 : h.get n46 = none := hf0 _ hn
   have hfo := hf
   have hFo := R_k.ours
   refine sq.op rfl rfl (Does.append (E := encSmp) (xs := ks) (ys := [x43]) appSmp ⟨.slice 53, by kernel_rfl, fun _ q => by cases q⟩ hf hs R_k (IsRow.of (E := encSmp) (xs := [x43]) (cap := 1) hb44 (Nat.le_refl _)) rfl rfl (by simp only [List.length_cons, List.length_nil]; omega) (by simp only [List.length_cons, List.length_nil]; omega) hz0) ?_
   rintro v51 h48 n49 ⟨R_k, hs, hB52⟩ s50 hn2 hf
   refine sq.w ?_
   have dn_k_b : ∀ c ∈ blkOf v51, c ≠ b := fun c hc => (hB52 c hc).elim (fun q => d_k_b c q) (fun q => by rw [q]; exact (hfo.ne hb_).symm)
   have dn_k_f : ∀ c ∈ blkOf v51, c ≠ f := fun c hc => (hB52 c hc).elim (fun q => d_k_f c q) (fun q => by rw [q]; exact (hfo.ne hf_).symm)
   have dn_k_g : ∀ c ∈ blkOf v51, c ≠ g := fun c hc => (hB52 c hc).elim (fun q => d_k_g c q) (fun q => by rw [q]; exact (hfo.ne hg_).symm)
   have dn_k_n : ∀ c ∈ blkOf v51, c ≠ n := fun c hc => (hB52 c hc).elim (fun q => d_k_n c q) (fun q => by rw [q]; exact (hfo.ne hb1).symm)
   have dn_k_n5 : ∀ c ∈ blkOf v51, c ≠ n5 := fun c hc => (hB52 c hc).elim (fun q => d_k_n5 c q) (fun q => by rw [q]; exact (hfo.ne hb10).symm)
   have dn_k_n12 : ∀ c ∈ blkOf v51, c ≠ n12 := fun c hc => (hB52 c hc).elim (fun q => d_k_n12 c q) (fun q => by rw [q]; exact (hfo.ne hb18).symm)
   have dn_k_n27 : ∀ c ∈ blkOf v51, c ≠ n27 := fun c hc => (hB52 c hc).elim (fun q => d_k_n27 c q) (fun q => by rw [q]; exact (hfo.ne hb44).symm)
   have ours_s50 := hFo
   have hb_ := s50 _ _ (fun hm => d_k_b _ hm rfl) hb_
   have hf_ := s50 _ _ (fun hm => d_k_f _ hm rfl) hf_
   have hg_ := s50 _ _ (fun hm => d_k_g _ hm rfl) hg_
   have hS := hS.keep (.of s50 ours_s50)
   have hb1 := s50 _ _ (fun hm => d_k_n _ hm rfl) hb1
   have hb10 := s50 _ _ (fun hm => d_k_n5 _ hm rfl) hb10
   have L_g2_5 := L_g2_5.keep (.of s50 ours_s50)
   have M_g2_5 := M_g2_5.keep (.of s50 ours_s50)
   have hb18 := s50 _ _ (fun hm => d_k_n12 _ hm rfl) hb18
   have F_o := F_o.keep (.of s50 ours_s50)
   have F_w := F_w.keep (.of s50 ours_s50)
   have hb44 := s50 _ _ (fun hm => d_k_n27 _ hm rfl) hb44
   have d_k_b := dn_k_b
   have d_k_f := dn_k_f
   have d_k_g := dn_k_g
   have d_k_n := dn_k_n
   have d_k_n5 := dn_k_n5
   have d_k_n12 := dn_k_n12
   have d_k_n27 := dn_k_n27
   obtain ⟨a53, cp54, rfl⟩ := R_k.slice
   have hn := Nat.le_trans hn hn2
   refine sq.c (v := .slice a53 (ks ++ [x43]).length cp54) rfl rfl rfl rfl ?_
   refine sq.e (AWp.rowV (l := _) pok ?_)
   refine sq.c (v := .int .i64 (i + 1)) rfl rfl (okI (wrap_i64 (by omega) (by omega))) rfl ?_
   refine sq.c (v := .int .i64 (i + 1)) rfl rfl rfl rfl ?_
   refine sq.e ?_
   have hil : i.toNat < xs.length := by have := hPl; omega
   have hxi : xs[i.toNat]? = some xs[i.toNat] := List.getElem?_eq_getElem hil
   have hk2 := keptV_snoc (xs := xs.take i.toNat) (vs := P.2.take i.toNat) (x := xs[i.toNat]) (v := x35) (by rw [List.length_take, List.length_take, hPl])
   rw [← take_snoc hi0 hxi, ← take_snoc hi0 hx_x35, ← hks] at hk2
   have hb2 := badV_snoc (P.2.take i.toNat) x35
   rw [← take_snoc hi0 hx_x35, ← hbd] at hb2
   rw [hx_x43] at hxi
   rw [if_pos c9_1, ← Option.some.inj hxi] at hk2
   rw [if_neg (by omega)] at hb2
   refine ⟨_, _, rfl, by omega, i + 1, bad, ks ++ [x43], a53, cp54, rfl, hs, hn, hf, hb_, hf_, hg_, hS, hb1, hb10, L_g2_5, M_g2_5, hb18, F_o, F_w, R_k, d_k_b, d_k_f, d_k_g, d_k_n, d_k_n5, d_k_n12, (by omega), (by omega), (hk2.symm), (by omega), getV [undef, undef, undef, undef, undef, undef, undef, undef, undef, undef, undef, undef, undef, undef, undef, .int .i64 (i), .int .u8 (x35), undef, undef, undef, undef, undef, undef, undef, undef, undef, undef, undef, undef, undef, undef, undef, undef, undef, undef, undef, undef, undef, undef, undef, .bool true, .int .i64 (i), .pointer (some ⟨b28, o29, none⟩), .int .u8 (x35), .bool true, .int .u8 (x35), .bool true, .slice a_k (ks.length) cp_k, .pointer (some ⟨n, 1, none⟩), .slice a2 (xs.length) cp2, .int .i64 (i), .pointer (some ⟨b36, o37, none⟩), .agg #[.int .i64 (x43.1), .int .u64 (x43.2)], .slice (some ⟨n27, 0, none⟩) (1) (1), .slice a53 (ks ++ [x43]).length cp54, (y25 55), (y25 56), (y25 57), (y25 58), (y25 59), .int .i64 (i + 1)], rfl⟩
  ·rw [decide_eq_false c9_1]
   refine AWp.condF rfl rfl ?_
   refine AWp.seq (AWp.rowV (l := _) pok ?_)
   refine sq.c (v := .int .u8 (x35)) rfl rfl rfl rfl ?_
   refine sq.t (v := .bool (decide (x35 = 3 ∨ x35 = 4))) rfl (CallsF.fn rfl (by kernel_rfl) rfl rfl) (fun hf => bad_spec _) hf rfl ?_
   intro n55 hn2 hf
   have hn := Nat.le_trans hn hn2
   refine sq.c (v := .bool (decide (x35 = 3 ∨ x35 = 4))) rfl rfl rfl rfl ?_
   refine sq.e ?_
   rcases Bool.eq_false_or_eq_true (decide (x35 = 3 ∨ x35 = 4)) with c11_1 | c11_1
   ·rw [c11_1]
    refine AWp.condT rfl rfl ?_
    refine AWp.rowV (l := _) pok ?_
    refine sq.c (v := .int .i64 (bad)) rfl rfl rfl rfl ?_
    refine sq.c (v := .int .i64 (bad + 1)) rfl rfl (okI (wrap_i64 (by omega) (by omega))) rfl ?_
    refine sq.c (v := .int .i64 (bad + 1)) rfl rfl rfl rfl ?_
    refine sq.e (AWp.rowV (l := _) pok ?_)
    refine sq.c (v := .int .i64 (i + 1)) rfl rfl (okI (wrap_i64 (by omega) (by omega))) rfl ?_
    refine sq.c (v := .int .i64 (i + 1)) rfl rfl rfl rfl ?_
    refine sq.e ?_
    have hil : i.toNat < xs.length := by have := hPl; omega
    have hxi : xs[i.toNat]? = some xs[i.toNat] := List.getElem?_eq_getElem hil
    have hk2 := keptV_snoc (xs := xs.take i.toNat) (vs := P.2.take i.toNat) (x := xs[i.toNat]) (v := x35) (by rw [List.length_take, List.length_take, hPl])
    rw [← take_snoc hi0 hxi, ← take_snoc hi0 hx_x35, ← hks] at hk2
    have hb2 := badV_snoc (P.2.take i.toNat) x35
    rw [← take_snoc hi0 hx_x35, ← hbd] at hb2
    rw [if_neg c9_1, List.append_nil] at hk2
    rw [if_pos (of_decide_eq_true c11_1)] at hb2
    refine ⟨_, _, rfl, by omega, i + 1, bad + 1, ks, a_k, cp_k, rfl, hs, hn, hf, hb_, hf_, hg_, hS, hb1, hb10, L_g2_5, M_g2_5, hb18, F_o, F_w, R_k, d_k_b, d_k_f, d_k_g, d_k_n, d_k_n5, d_k_n12, (by omega), (by omega), (hk2.symm), (by omega), getV [undef, undef, undef, undef, undef, undef, undef, undef, undef, undef, undef, undef, undef, undef, undef, .int .i64 (i), .int .u8 (x35), undef, undef, undef, undef, undef, undef, undef, undef, undef, undef, undef, undef, undef, undef, undef, undef, undef, undef, undef, undef, undef, undef, undef, .bool true, .int .i64 (i), .pointer (some ⟨b28, o29, none⟩), .int .u8 (x35), .bool false, .int .u8 (x35), .bool false, (y25 47), (y25 48), (y25 49), (y25 50), (y25 51), (y25 52), (y25 53), (y25 54), .bool true, .int .u8 (x35), .bool true, .int .i64 (bad), .int .i64 (bad + 1), .int .i64 (i + 1)], rfl⟩
   ·rw [c11_1]
    refine AWp.condF rfl rfl ?_
    refine AWp.skip (AWp.rowV (l := _) pok ?_)
    refine sq.c (v := .int .i64 (i + 1)) rfl rfl (okI (wrap_i64 (by omega) (by omega))) rfl ?_
    refine sq.c (v := .int .i64 (i + 1)) rfl rfl rfl rfl ?_
    refine sq.e ?_
    have hil : i.toNat < xs.length := by have := hPl; omega
    have hxi : xs[i.toNat]? = some xs[i.toNat] := List.getElem?_eq_getElem hil
    have hk2 := keptV_snoc (xs := xs.take i.toNat) (vs := P.2.take i.toNat) (x := xs[i.toNat]) (v := x35) (by rw [List.length_take, List.length_take, hPl])
    rw [← take_snoc hi0 hxi, ← take_snoc hi0 hx_x35, ← hks] at hk2
    have hb2 := badV_snoc (P.2.take i.toNat) x35
    rw [← take_snoc hi0 hx_x35, ← hbd] at hb2
    rw [if_neg c9_1, List.append_nil] at hk2
    rw [if_neg (of_decide_eq_false c11_1)] at hb2
    refine ⟨_, _, rfl, by omega, i + 1, bad, ks, a_k, cp_k, rfl, hs, hn, hf, hb_, hf_, hg_, hS, hb1, hb10, L_g2_5, M_g2_5, hb18, F_o, F_w, R_k, d_k_b, d_k_f, d_k_g, d_k_n, d_k_n5, d_k_n12, (by omega), (by omega), (hk2.symm), (by omega), getV [undef, undef, undef, undef, undef, undef, undef, undef, undef, undef, undef, undef, undef, undef, undef, .int .i64 (i), .int .u8 (x35), undef, undef, undef, undef, undef, undef, undef, undef, undef, undef, undef, undef, undef, undef, undef, undef, undef, undef, undef, undef, undef, undef, undef, .bool true, .int .i64 (i), .pointer (some ⟨b28, o29, none⟩), .int .u8 (x35), .bool false, .int .u8 (x35), .bool false, (y25 47), (y25 48), (y25 49), (y25 50), (y25 51), (y25 52), (y25 53), (y25 54), .bool false, .int .u8 (x35), .bool false, (y25 58), (y25 59), .int .i64 (i + 1)], rfl⟩
 ·rw [decide_eq_false c7_0]
  refine AWp.condF rfl rfl ?_
  refine AWp.exit ?_
  refine AWp.seq (AWp.seq (AWp.rowV (l := _) pok ?_))
  refine sq.c (v := .slice a_k (ks.length) cp_k) rfl rfl rfl rfl ?_
  refine sq.c (v := .int .i64 (((ks.length : Nat) : Int))) rfl rfl (by kernel_rfl) rfl ?_
  refine sq.c (v := .bool (decide ((0 : Int) < (((ks.length : Nat) : Int))))) rfl rfl rfl rfl ?_
  refine sq.e ?_
  by_cases c14_2 : (0 : Int) < (((ks.length : Nat) : Int))
  ·rw [decide_eq_true c14_2]
   refine AWp.condT rfl rfl ?_
   refine AWp.anyK pok [0, 1, 2, 3, 4, 5, 6, 8, 7, 9, 10] (by kernel_rfl) (by kernel_rfl) rfl (fun x fr fr' h n hd _ q => ⟨hd ▸ q.1, q.2⟩) ?_
   refine dk.c (v := .pointer (some ⟨b, 0, none⟩)) rfl (by kernel_rfl) rfl rfl rfl rfl ?_
   refine dk.c (v := .pointer (some ⟨b, 0, none⟩)) rfl (by kernel_rfl) rfl rfl rfl rfl ?_
   refine dk.c (v := .pointer (some ⟨b, 1, none⟩)) rfl (by kernel_rfl) rfl rfl (by kernel_rfl) rfl ?_
   refine dk.gB (v := .map (some g)) b rfl (by kernel_rfl) rfl rfl (fun _ q_ => (ld1 (P := Tryd.prog) (t := 67) (p := 1) (v := .map (some g)) (by kernel_rfl) (by kernel_rfl) (q_ _ hb_) rfl)) rfl ?_
   refine dk.gB (v := .agg #[.string (ten), .string (keyA ls)]) n5 rfl (by kernel_rfl) rfl rfl (fun _ q_ => (ldA (P := Tryd.prog) (t := 73) (p := 0) (k := 2) (xs := [.string (ten), .string (keyA ls)]) (by kernel_rfl) (by kernel_rfl) (q_ _ hb10) rfl (Nat.le_of_ble_eq_true rfl))) rfl ?_
   refine dk.c (v := .pointer (some ⟨n, 0, none⟩)) rfl (by kernel_rfl) rfl rfl (by kernel_rfl) rfl ?_
   refine dk.gB (v := .slice a (ls.length) cp) n rfl (by kernel_rfl) rfl rfl (fun _ q_ => (ld1 (P := Tryd.prog) (t := 40) (p := 0) (v := .slice a (ls.length) cp) (by kernel_rfl) (by kernel_rfl) (q_ _ hb1) rfl)) rfl ?_
   refine dk.c (v := .slice a_o (P.1.length) c_o) rfl (by kernel_rfl) rfl rfl rfl rfl ?_
   refine dk.k rfl (by kernel_rfl) rfl (CallsF.fn rfl (by kernel_rfl) rfl rfl) (cloneLFz _ (isRow_noc hl hs hNC) (by omega)) (keepC (by simp) (keepC (by simp) (keepC (by simp) keepN))) ?_
   rintro v_q55 h56 n57 R_q55 s58 hn2 hf
   obtain ⟨a_q55, c_q55, rfl⟩ := R_q55.slice
   refine dk.w ?_
   have hS := hS.keep (.of0 s58)
   have F_o := F_o.keep (.of0 s58)
   have R_k := R_k.keep s58
   have hg_ := s58.sub _ _ hg_
   have hs := hs.trans (s58.mono (by simp))
   have hn := Nat.le_trans hn hn2
   refine dk.c (v := .agg #[.slice a_q55 (ls).length c_q55, .slice a_o (P.1.length) c_o]) rfl (by kernel_rfl) rfl rfl (by kernel_rfl) rfl ?_
   refine dk.op rfl (by kernel_rfl) rfl rfl (Does.mapSet (K := plV) (V := ownV) (k := (ten, keyA ls)) (v := (.slice a_q55 (ls).length c_q55, .slice a_o (P.1.length) c_o)) hf Tryd.underlying67 keyPl rfl rfl rfl rfl rfl hg_) (keepC (fun hm => Ne.symm e_g_n (List.mem_singleton.1 hm)) (keepC (fun hm => Ne.symm e_g_n5 (List.mem_singleton.1 hm)) (keepC (fun hm => ne_b_g (List.mem_singleton.1 hm)) keepN))) ?_
   rintro _ h61 n62 ⟨rfl, hb59⟩ s63 hn2 hf
   refine dk.w0 ?_
   have hS := hS.keep (.own s63 hg_ rfl)
   have F_o := F_o.keep (.own s63 hg_ rfl)
   have R_k := R_k.but s63 (fun c hc hm => d_k_g c hc (List.mem_singleton.1 hm))
   have R_q55 := R_q55.keep (.own s63 hg_ rfl)
   have hs := hs.at (by simp) s63
   have hn := Nat.le_trans hn hn2
   have ok60 := (okG).set (ten, keyA ls) (.slice a_q55 (ls).length c_q55, .slice a_o (P.1.length) c_o)
   refine dk.e (AWp.seq (AWp.rowV (l := _) pok ?_))
   refine sq.c (v := .slice a_k (ks.length) cp_k) rfl rfl rfl rfl ?_
   refine sq.c (v := .int .i64 (bad)) rfl rfl rfl rfl ?_
   refine sq.c (v := .slice a_k (ks.length) cp_k) rfl rfl rfl rfl ?_
   refine sq.c (v := .int .i64 (bad)) rfl rfl rfl rfl ?_
   refine sq.e ?_
   refine AWp.ret ?_
   refine ⟨rfl, [.slice a_k (ks.length) cp_k, .int .i64 (bad)], rfl, .tuple #[.slice a_k (ks.length) cp_k, .int .i64 (bad)], rfl, hs, hn, ?_⟩
   rw [show i.toNat = P.2.length by omega, List.take_length] at hks hbd
   rw [hPl, List.take_length] at hks
   have ek : pKept S ten (ls, xs) = ks := by unfold pKept; rw [← hP]; exact hks.symm
   have eb : pBad S ten (ls, xs) = bad := by unfold pBad; rw [← hP]; exact hbd.symm
   rw [ek, eb]
   have hne : ¬ ks = [] := fun e => by rw [e] at c14_2; simp at c14_2
   refine ⟨_, mset G kg (ten, keyA ls) (.slice a_q55 (ls).length c_q55, .slice a_o (P.1.length) c_o), rfl, R_k, ?_, ?_, ?_⟩
   rotate_left
   rotate_left
   ·unfold pS
    rw [ek, if_neg hne, ← hP]
    exact hS.set kg (ten, keyA ls) ⟨R_q55, F_o⟩
   ·unfold pCk
    rw [ek, if_neg hne, show mck S kg (ten, keyA (ls, xs).1) = mck G kg (ten, keyA ls) from by unfold mck; rw [hS.idx]]
    exact hb59
   ·unfold pCk
    rw [ek, if_neg hne, show mck S kg (ten, keyA (ls, xs).1) = mck G kg (ten, keyA ls) from by unfold mck; rw [hS.idx]]
    exact ok60
  ·rw [decide_eq_false c14_2]
   refine AWp.condF rfl rfl ?_
   refine AWp.skip (AWp.seq (AWp.rowV (l := _) pok ?_))
   refine sq.c (v := .slice a_k (ks.length) cp_k) rfl rfl rfl rfl ?_
   refine sq.c (v := .int .i64 (bad)) rfl rfl rfl rfl ?_
   refine sq.c (v := .slice a_k (ks.length) cp_k) rfl rfl rfl rfl ?_
   refine sq.c (v := .int .i64 (bad)) rfl rfl rfl rfl ?_
   refine sq.e ?_
   refine AWp.ret ?_
   refine ⟨rfl, [.slice a_k (ks.length) cp_k, .int .i64 (bad)], rfl, .tuple #[.slice a_k (ks.length) cp_k, .int .i64 (bad)], rfl, hs, hn, ?_⟩
   rw [show i.toNat = P.2.length by omega, List.take_length] at hks hbd
   rw [hPl, List.take_length] at hks
   have ek : pKept S ten (ls, xs) = ks := by unfold pKept; rw [← hP]; exact hks.symm
   have eb : pBad S ten (ls, xs) = bad := by unfold pBad; rw [← hP]; exact hbd.symm
   rw [ek, eb]
   have he : ks = [] := List.eq_nil_of_length_eq_zero (by omega)
   refine ⟨_, G, rfl, R_k, ?_, ?_, ?_⟩
   ·unfold pCk
    rw [ek, if_pos he]
    exact hg_
   ·unfold pCk
    rw [ek, if_pos he]
    exact okG
   ·unfold pS
    rw [ek, if_pos he]
    exact hS
end Go.Proofs.YtkpaklofdkjinaaDoor
namespace Go.Proofs.YtkpaklofdkjinaaDoor
open Go Go.Abs Go.RowKit Go.Shelf
set_option maxRecDepth 100000
set_option maxHeartbeats 4000000
theorem sub_none {h h' : Heap} {b : Nat} (s : SubBut h h' []) (e : h'.get b = none) : h.get b = none := by
  cases hb : h.get b with
  | none => rfl
  | some o => rw [s.sub _ _ hb] at e; cases e
theorem got_ne {h : Heap} {a b : Nat} {o : AObj} (e : h.get a = some o) (z : h.get b = none) : a ≠ b := fun q => by rw [q, z] at e; cases e
theorem res_cellC {P : Program} {vs : List Value} {h : Heap} {a : Tmp} {t : TypeId} {v : Value} {rest : List ResultVar} {xs : List Value} (hl : loadE P t (getV vs a) h = some v) (hr : resultsE P (frameV vs) h rest = some xs) : resultsE P (frameV vs) h (.cell a t :: rest) = some (v :: xs) := by
  have e : resultE P (frameV vs) h (.cell a t) = some v := by
    show loadE P t ((frameV vs).get a) h = some v
    rw [frameV_get]; exact hl
  show (match resultE P (frameV vs) h (.cell a t), resultsE P (frameV vs) h rest with | some x, some xs => some (x :: xs) | _, _ => none) = _
  rw [e, hr]
theorem FRow.conv {α β : Type} {E : Enc α} {E' : Enc β} (f : α → β) (hk : E'.k = E.k) (hc : ∀ x, E'.cells (f x) = E.cells x) {h : Heap} {v : Value} {xs : List α} (q : FRow E h v xs) : FRow E' h v (xs.map f) := by
  have hr : E'.row (xs.map f) = E.row xs := by
    unfold Enc.row
    induction xs with
    | nil => rfl
    | cons x xs ih =>
      have := hc x
      simp_all [List.flatMap_map]
  rcases q with ⟨rfl, q⟩ | ⟨b, o, cap, cs, ci, rfl, h1, h2, h3, h4⟩
  · exact .inl ⟨rfl, q⟩
  · exact .inr ⟨b, o, cap, cs, ci, by rw [List.length_map], by rw [List.length_map]; exact h1, h2, by rw [List.length_map, hk, hr]; exact h3, by rw [List.length_map, hk]; exact h4⟩
theorem putSt {h : Heap} {n : Nat} {b f g kf kg : Nat} {c : CI} (F : FM) (G : SM) (S : SP) (hb_ : h.get b = some (.cells [.map (some f), .map (some g)] true c)) (hf_ : h.get f = some (.map (mapE plV intV F) kf)) (hg_ : h.get g = some (.map (mapE plV ownV G) kg)) (okF : MOk F kf) (okG : MOk G kg) (hS : SMIs h G S) (ne_f_g : f ≠ g) {a a2 : Option Addr} {cp cp2 N : Nat} (ten : ByteArray) (ls : List Lab) (xs : List Samp) (hl : IsRow encLab h (.slice a ls.length cp) ls) (hx : IsRow encSmp h (.slice a2 xs.length cp2) xs) (hsm : Small (ls, xs)) (hinv : InvS N S) (hN : N < 1000000000000) :
    Makes Tryd.prog 30 [.pointer (some ⟨b, 0, none⟩), .string ten, .agg #[.slice a ls.length cp, .slice a2 xs.length cp2]] h n [g] fun v h2 _ => ∃ v1 G2, v = .tuple #[v1, .int .i64 (pBad S ten (ls, xs))] ∧ FRow encSmp h2 v1 (pKept S ten (ls, xs)) ∧ h2.get g = some (.map (mapE plV ownV G2) (pCk S kg ten (ls, xs))) ∧ MOk G2 (pCk S kg ten (ls, xs)) ∧ SMIs h2 G2 (pS S kg ten (ls, xs)) := by
  refine makes_weaken (putX_spec F G S hb_ hf_ hg_ okF okG hS ne_f_g ten ls xs hl hx hsm hinv hN) ?_
  rintro v h2 n2 hs hn hf ⟨v1, G2, rfl, q, hg2, ok, sm⟩
  obtain ⟨h3, w, fr, k3, s3⟩ := q.freeze
  exact ⟨h3, w, q.fresh hs s3, v1, G2, rfl, fr, s3 _ _ (OwnRow.notmap q hg2) hg2, ok, sm.keep k3⟩
/-! Fences, told in their row. -/
abbrev Fen := ByteArray × ByteArray × Int
def encFen : Enc Fen := ⟨3, fun x => [.string x.1, .string x.2.1, .int .i64 x.2.2], fun _ => rfl, by decide⟩
theorem appFen : AppT Tryd.prog encFen 27 56 40 := ⟨by kernel_rfl, by kernel_rfl, by kernel_rfl, fun _ => rfl⟩
def fenAt (F : FM) (p : Pl) : Fen := (p.1, p.2, (mget F p).getD 0)
def fencesV (F : FM) : List Fen := (keysP F).map (fenAt F)
theorem keysP_len {ν : Type} (L : List (Pl × ν × Nat)) : (keysP L).length = L.length := by
  unfold keysP
  rw [(sortP_perm _).length_eq, List.length_map]
/-! Series, told in their row. -/
abbrev Hdr := Option Addr × Nat × Nat
def hdV (x : Hdr) : Value := .slice x.1 x.2.1 x.2.2
def encSerO : Enc (Hdr × Hdr) := ⟨2, fun x => [hdV x.1, hdV x.2], fun _ => rfl, by decide⟩
theorem appSerO : AppT Tryd.prog encSerO 29 43 48 := ⟨by kernel_rfl, by kernel_rfl, by kernel_rfl, fun _ => rfl⟩
def serV (x : Hdr × Hdr) : RSer := (hdV x.1, hdV x.2)
theorem FRow.ser {h : Heap} {v : Value} {xs : List (Hdr × Hdr)} (q : FRow encSerO h v xs) : FRow encSer h v (xs.map serV) := FRow.conv serV rfl (fun _ => rfl) q
theorem FSers.nil (h : Heap) : FSers h [] [] := ⟨rfl, fun i r s a => by simp at a⟩
theorem FSers.snoc {h : Heap} {rs : List RSer} {ss : List Ser} {r : RSer} {s : Ser} (q : FSers h rs ss) (f : FSer h r s) : FSers h (rs ++ [r]) (ss ++ [s]) := by
  refine ⟨by simp [q.1], fun i r' s' x y => ?_⟩
  rcases Nat.lt_or_ge i rs.length with hl | hl
  · rw [List.getElem?_append_left hl] at x
    rw [List.getElem?_append_left (by rw [← q.1]; exact hl)] at y
    exact q.2 i r' s' x y
  · rw [List.getElem?_append_right hl] at x
    rw [List.getElem?_append_right (by rw [← q.1]; exact hl), ← q.1] at y
    have : i - rs.length = 0 := by have := (List.getElem?_eq_some_iff.1 x).1; simp at this; omega
    rw [this] at x y
    simp at x y
    subst x; subst y
    exact f
theorem FSers.snocO {h : Heap} {rs : List (Hdr × Hdr)} {ss : List Ser} {r : Hdr × Hdr} {s : Ser} (q : FSers h (rs.map serV) ss) (f : FSer h (serV r) s) : FSers h ((rs ++ [r]).map serV) (ss ++ [s]) := by
  rw [List.map_append]
  exact q.snoc f
abbrev ROwn := ByteArray × Hdr × Hdr
abbrev POwn := ByteArray × Ser
def encOwn : Enc ROwn := ⟨3, fun x => [.string x.1, hdV x.2.1, hdV x.2.2], fun _ => rfl, by decide⟩
theorem appOwn : AppT Tryd.prog encOwn 38 45 64 := ⟨by kernel_rfl, by kernel_rfl, by kernel_rfl, fun _ => rfl⟩
def FOwn (h : Heap) (r : ROwn) (x : POwn) : Prop := r.1 = x.1 ∧ FSer h (serV r.2) x.2
def FOwns (h : Heap) (rs : List ROwn) (xs : List POwn) : Prop := rs.length = xs.length ∧ ∀ (i : Nat) (r : ROwn) (x : POwn), rs[i]? = some r → xs[i]? = some x → FOwn h r x
theorem FOwn.keep {h h' : Heap} {r : ROwn} {x : POwn} (q : FOwn h r x) (k : Keeps h h') : FOwn h' r x := ⟨q.1, q.2.keep k⟩
theorem FOwns.keep {h h' : Heap} {rs : List ROwn} {xs : List POwn} (q : FOwns h rs xs) (k : Keeps h h') : FOwns h' rs xs := ⟨q.1, fun i r s a b => (q.2 i r s a b).keep k⟩
theorem FOwns.nil (h : Heap) : FOwns h [] [] := ⟨rfl, fun i r s a => by simp at a⟩
theorem FOwns.at {h : Heap} {rs : List ROwn} {xs : List POwn} {i : Nat} {r : ROwn} (q : FOwns h rs xs) (hr : rs[i]? = some r) : ∃ x, xs[i]? = some x ∧ FOwn h r x := by
  have hi := (List.getElem?_eq_some_iff.1 hr).1
  rw [q.1] at hi
  exact ⟨_, List.getElem?_eq_getElem hi, q.2 i r _ hr (List.getElem?_eq_getElem hi)⟩
theorem FOwns.snoc {h : Heap} {rs : List ROwn} {xs : List POwn} {r : ROwn} {x : POwn} (q : FOwns h rs xs) (f : FOwn h r x) : FOwns h (rs ++ [r]) (xs ++ [x]) := by
  refine ⟨by simp [q.1], fun i r' s' x y => ?_⟩
  rcases Nat.lt_or_ge i rs.length with hl | hl
  · rw [List.getElem?_append_left hl] at x
    rw [List.getElem?_append_left (by rw [← q.1]; exact hl)] at y
    exact q.2 i r' s' x y
  · rw [List.getElem?_append_right hl] at x
    rw [List.getElem?_append_right (by rw [← q.1]; exact hl), ← q.1] at y
    have : i - rs.length = 0 := by have := (List.getElem?_eq_some_iff.1 x).1; simp at this; omega
    rw [this] at x y
    simp at x y
    subst x; subst y
    exact f
def ownAt (S : SP) (p : Pl) : POwn := (p.1, (mget S p).getD ([], []))
def allV (S : SP) : List POwn := (keysP S).map (ownAt S)
theorem SMIs.fst {h : Heap} : ∀ {G : SM} {S : SP}, SMIs h G S → (S.map fun x => x.1) = G.map fun x => x.1 := by
  intro G; induction G with
  | nil => intro S q; have := q.1; cases S with
    | nil => rfl
    | cons => simp at this
  | cons a G ih => intro S q; cases S with
    | nil => have := q.1; simp at this
    | cons b S => obtain ⟨h1, h2⟩ := q.cons; simp [ih h2, h1.1]
theorem SMIs.keys {h : Heap} {G : SM} {S : SP} (q : SMIs h G S) : keysP G = keysP S := by unfold keysP; rw [q.fst]
theorem keysF {h : Heap} {n B m ck : Nat} {own : Bool} {ci : CI} {L : FM} (hB : h.get B = some (.cells [.map (some m)] own ci)) (hw : ci.whole = true) (hm : h.get m = some (.map (mapE plV intV L) ck)) (ok : MOk L ck) (hlen : L.length ≤ 1000000000000) :
    Makes Tryd.prog 26 [.func (.func 47) #[] #[.pointer (some ⟨B, 0, none⟩)], .func (.func 28) #[] #[]] h n [] fun v h' _ => FRow encPlE h' v (keysP L) := makes_fz (f26_47 hB hw hm ok hlen)
theorem keysG {h : Heap} {n B m ck : Nat} {own : Bool} {ci : CI} {L : SM} (hB : h.get B = some (.cells [.map (some m)] own ci)) (hw : ci.whole = true) (hm : h.get m = some (.map (mapE plV ownV L) ck)) (ok : MOk L ck) (hlen : L.length ≤ 1000000000000) :
    Makes Tryd.prog 26 [.func (.func 59) #[] #[.pointer (some ⟨B, 0, none⟩)], .func (.func 28) #[] #[]] h n [] fun v h' _ => FRow encPlE h' v (keysP L) := makes_fz (f26_59 hB hw hm ok hlen)
theorem fcl_spec {h : Heap} {n : Nat} {f kf : Nat} (F : FM) (hm_ : h.get f = some (.map (mapE plV intV F) kf)) (okF : MOk F kf) :
    Makes Tryd.prog 36 [.map (some f)] h n ([]) (fun v h2 _ => ∃ f2, v = .map (some f2) ∧ h2.get f2 = some (.map (mapE plV intV F) kf) ∧ h.get f2 = none) := by
 refine Makes.free fun hf => ?_
 have hs : SubBut h h ([]) := .refl _ _
 have hn : n ≤ n := Nat.le_refl _
 have hf0 := hf
 refine Makes.of_bodyV (args := [.map (some f)]) (vs := [.map (some f), undef, undef, undef, undef, undef, undef, undef, undef]) Tryd.func36 rfl rfl ?_
 refine AWp.seq (AWp.rowV (l := _) pok ?_)
 refine sq.c (v := .map (none)) rfl rfl rfl rfl ?_
 refine sq.e (AWp.seq (AWp.seq (AWp.rowV (l := _) pok ?_)))
 refine sq.c (v := .map (some f)) rfl rfl rfl rfl ?_
 refine sq.c (v := .bool false) rfl rfl (by kernel_rfl) rfl ?_
 refine sq.e ?_
 refine AWp.condF rfl rfl ?_
 refine AWp.skip (AWp.seq (AWp.rowV (l := _) pok ?_))
 refine sq.c (v := .map (some f)) rfl rfl rfl rfl ?_
 refine sq.c (v := .iface 66 (.map (some f))) rfl rfl (by kernel_rfl) rfl ?_
 have z_n : h.get n = none := hf0 _ hn
 refine sq.op rfl rfl (Does.cloneM hf Tryd.func61 rfl (by kernel_rfl) rfl rfl hm_) ?_
 rintro _ h2 n3 ⟨rfl, hb1⟩ s4 hn2 hf
 refine sq.w ?_
 have hs := hs.trans s4
 have hn := Nat.le_trans hn hn2
 refine sq.c (v := .map (some n)) rfl rfl (by kernel_rfl) rfl ?_
 refine sq.c (v := .map (some n)) rfl rfl rfl rfl ?_
 refine sq.e ?_
 refine AWp.ret ?_
 refine ⟨rfl, [.map (some n)], rfl, .map (some n), rfl, hs, hn, ?_⟩
 exact ⟨_, rfl, hb1, z_n⟩
theorem gcl_spec {h : Heap} {n : Nat} {g kg : Nat} (G : SM) (hm_ : h.get g = some (.map (mapE plV ownV G) kg)) (okG : MOk G kg) :
    Makes Tryd.prog 37 [.map (some g)] h n ([]) (fun v h2 _ => ∃ f2, v = .map (some f2) ∧ h2.get f2 = some (.map (mapE plV ownV G) kg) ∧ h.get f2 = none) := by
 refine Makes.free fun hf => ?_
 have hs : SubBut h h ([]) := .refl _ _
 have hn : n ≤ n := Nat.le_refl _
 have hf0 := hf
 refine Makes.of_bodyV (args := [.map (some g)]) (vs := [.map (some g), undef, undef, undef, undef, undef, undef, undef, undef]) Tryd.func37 rfl rfl ?_
 refine AWp.seq (AWp.rowV (l := _) pok ?_)
 refine sq.c (v := .map (none)) rfl rfl rfl rfl ?_
 refine sq.e (AWp.seq (AWp.seq (AWp.rowV (l := _) pok ?_)))
 refine sq.c (v := .map (some g)) rfl rfl rfl rfl ?_
 refine sq.c (v := .bool false) rfl rfl (by kernel_rfl) rfl ?_
 refine sq.e ?_
 refine AWp.condF rfl rfl ?_
 refine AWp.skip (AWp.seq (AWp.rowV (l := _) pok ?_))
 refine sq.c (v := .map (some g)) rfl rfl rfl rfl ?_
 refine sq.c (v := .iface 67 (.map (some g))) rfl rfl (by kernel_rfl) rfl ?_
 have z_n : h.get n = none := hf0 _ hn
 refine sq.op rfl rfl (Does.cloneM hf Tryd.func61 rfl (by kernel_rfl) rfl rfl hm_) ?_
 rintro _ h2 n3 ⟨rfl, hb1⟩ s4 hn2 hf
 refine sq.w ?_
 have hs := hs.trans s4
 have hn := Nat.le_trans hn hn2
 refine sq.c (v := .map (some n)) rfl rfl (by kernel_rfl) rfl ?_
 refine sq.c (v := .map (some n)) rfl rfl rfl rfl ?_
 refine sq.e ?_
 refine AWp.ret ?_
 refine ⟨rfl, [.map (some n)], rfl, .map (some n), rfl, hs, hn, ?_⟩
 exact ⟨_, rfl, hb1, z_n⟩
theorem copy_spec {h : Heap} {n : Nat} {b f g kf kg : Nat} {c : CI} (F : FM) (G : SM) (S : SP) (hb_ : h.get b = some (.cells [.map (some f), .map (some g)] true c)) (hf_ : h.get f = some (.map (mapE plV intV F) kf)) (hg_ : h.get g = some (.map (mapE plV ownV G) kg)) (okF : MOk F kf) (okG : MOk G kg) (hS : SMIs h G S) (ne_f_g : f ≠ g) :
    Makes Tryd.prog 20 [.pointer (some ⟨b, 0, none⟩)] h n ([]) (fun v h2 _ => ∃ b2 f2 g2, v = .pointer (some ⟨b2, 0, none⟩) ∧ h2.get b2 = some (.cells [.map (some f2), .map (some g2)] true ⟨69, 0, true⟩) ∧ h2.get f2 = some (.map (mapE plV intV F) kf) ∧ h2.get g2 = some (.map (mapE plV ownV G) kg) ∧ h.get b2 = none ∧ h.get f2 = none ∧ h.get g2 = none ∧ f2 ≠ g2) := by
 refine Makes.free fun hf => ?_
 have ne_b_f : b ≠ f := by intro e; subst e; rw [hb_] at hf_; cases hf_
 have ne_b_g : b ≠ g := by intro e; subst e; rw [hb_] at hg_; cases hg_
 have hs : SubBut h h ([]) := .refl _ _
 have hn : n ≤ n := Nat.le_refl _
 have hf0 := hf
 refine Makes.of_bodyV (args := [.pointer (some ⟨b, 0, none⟩)]) (vs := [.pointer (some ⟨b, 0, none⟩), undef, undef, undef, undef, undef, undef, undef, undef, undef, undef, undef, undef, undef, undef, undef, undef]) Tryd.func20 rfl rfl ?_
 refine AWp.seq (AWp.rowV (l := _) pok ?_)
 refine sq.c (v := .pointer none) rfl rfl rfl rfl ?_
 refine sq.e (AWp.seq (AWp.seq (AWp.rowV (l := _) pok ?_)))
 refine sq.c (v := .pointer (some ⟨b, 0, none⟩)) rfl rfl rfl rfl ?_
 refine sq.c (v := .bool false) rfl rfl (by kernel_rfl) rfl ?_
 refine sq.e ?_
 refine AWp.condF rfl rfl ?_
 refine AWp.skip (AWp.seq ?_)
 refine AWp.anyK pok [0, 1, 2, 3, 5, 6, 7, 8, 4, 9, 10, 11, 12] (by kernel_rfl) (by kernel_rfl) rfl (fun x fr fr' h n hd _ q => ⟨hd ▸ q.1, q.2⟩) ?_
 refine dk.c (v := .pointer (some ⟨b, 0, none⟩)) rfl (by kernel_rfl) rfl rfl rfl rfl ?_
 refine dk.c (v := .pointer (some ⟨b, 0, none⟩)) rfl (by kernel_rfl) rfl rfl rfl rfl ?_
 refine dk.c (v := .pointer (some ⟨b, 0, none⟩)) rfl (by kernel_rfl) rfl rfl (by kernel_rfl) rfl ?_
 refine dk.gB (v := .map (some f)) b rfl (by kernel_rfl) rfl rfl (fun _ q_ => (ld1 (P := Tryd.prog) (t := 66) (p := 0) (v := .map (some f)) (by kernel_rfl) (by kernel_rfl) (q_ _ hb_) rfl)) rfl ?_
 refine dk.c (v := .pointer (some ⟨b, 0, none⟩)) rfl (by kernel_rfl) rfl rfl rfl rfl ?_
 refine dk.c (v := .pointer (some ⟨b, 0, none⟩)) rfl (by kernel_rfl) rfl rfl rfl rfl ?_
 refine dk.c (v := .pointer (some ⟨b, 1, none⟩)) rfl (by kernel_rfl) rfl rfl (by kernel_rfl) rfl ?_
 refine dk.gB (v := .map (some g)) b rfl (by kernel_rfl) rfl rfl (fun _ q_ => (ld1 (P := Tryd.prog) (t := 67) (p := 1) (v := .map (some g)) (by kernel_rfl) (by kernel_rfl) (q_ _ hb_) rfl)) rfl ?_
 refine dk.k rfl (by kernel_rfl) rfl (CallsF.fn rfl (by kernel_rfl) rfl rfl) (fcl_spec _ hf_ okF) (keepC (by simp) (keepC (by simp) keepN)) ?_
 rintro _ h1 n2 ⟨f2, rfl, hb_f2, y_f2⟩ s3 hn2 hf
 have z_f2 := sub_none hs y_f2
 refine dk.w ?_
 have hg_ := s3.sub _ _ hg_
 have hs := hs.trans s3
 have hn := Nat.le_trans hn hn2
 refine dk.k rfl (by kernel_rfl) rfl (CallsF.fn rfl (by kernel_rfl) rfl rfl) (gcl_spec _ hg_ okG) (keepC (by simp) (keepC (by simp) keepN)) ?_
 rintro _ h4 n5 ⟨g2, rfl, hb_g2, y_g2⟩ s6 hn2 hf
 have e_f2_g2 : f2 ≠ g2 := got_ne hb_f2 y_g2
 have z_g2 := sub_none hs y_g2
 refine dk.w ?_
 have hb_f2 := s6.sub _ _ hb_f2
 have hs := hs.trans s6
 have hn := Nat.le_trans hn hn2
 refine dk.c (v := .agg #[.map (some f2), .map (some g2)]) rfl (by kernel_rfl) rfl rfl (by kernel_rfl) rfl ?_
 have z_n5 : h.get n5 = none := hf0 _ hn
 refine dk.op rfl (by kernel_rfl) rfl rfl (Does.box (cs := [.map (some f2), .map (some g2)]) hf rfl rfl) (keepC (by simp) (keepC (by simp) keepN)) ?_
 rintro _ h8 n9 ⟨rfl, hb7⟩ s10 hn2 hf
 refine dk.w ?_
 have hb_f2 := s10.sub _ _ hb_f2
 have hb_g2 := s10.sub _ _ hb_g2
 have hs := hs.trans s10
 have hn := Nat.le_trans hn hn2
 refine dk.c (v := .pointer (some ⟨n5, 0, none⟩)) rfl (by kernel_rfl) rfl rfl rfl rfl ?_
 refine dk.e ?_
 refine AWp.ret ?_
 refine ⟨rfl, [.pointer (some ⟨n5, 0, none⟩)], rfl, .pointer (some ⟨n5, 0, none⟩), rfl, hs, hn, ?_⟩
 exact ⟨_, _, _, rfl, hb7, hb_f2, hb_g2, z_n5, z_f2, z_g2, e_f2_g2⟩
theorem kF_spec {h : Heap} {n : Nat} {f : Nat} :
    Makes Tryd.prog 27 [.map (some f)] h n ([]) (fun v h2 _ => ∃ q, v = .func (.func 47) #[] #[.pointer (some ⟨q, 0, none⟩)] ∧ h2.get q = some (.cells [.map (some f)] true ⟨66, 0, true⟩) ∧ h.get q = none) := by
 refine Makes.free fun hf => ?_
 have hs : SubBut h h ([]) := .refl _ _
 have hn : n ≤ n := Nat.le_refl _
 have hf0 := hf
 refine Makes.of_bodyV (args := [.map (some f)]) (vs := [.map (some f), undef, undef, undef]) Tryd.func27 rfl rfl ?_
 refine AWp.seq (AWp.rowV (l := _) pok ?_)
 have z_n : h.get n = none := hf0 _ hn
 refine sq.op rfl rfl (Does.box (cs := [.map (some f)]) hf rfl rfl) ?_
 rintro _ h2 n3 ⟨rfl, hb1⟩ s4 hn2 hf
 refine sq.w ?_
 have hs := hs.trans s4
 have hn := Nat.le_trans hn hn2
 refine sq.c (v := .nilFunc) rfl rfl rfl rfl ?_
 refine sq.e (AWp.seq (AWp.rowV (l := _) pok ?_))
 refine sq.c (v := .func (.func 47) #[] #[.pointer (some ⟨n, 0, none⟩)]) rfl rfl rfl rfl ?_
 refine sq.c (v := .func (.func 47) #[] #[.pointer (some ⟨n, 0, none⟩)]) rfl rfl rfl rfl ?_
 refine sq.e ?_
 refine AWp.ret ?_
 refine ⟨rfl, [.func (.func 47) #[] #[.pointer (some ⟨n, 0, none⟩)]], rfl, .func (.func 47) #[] #[.pointer (some ⟨n, 0, none⟩)], rfl, hs, hn, ?_⟩
 exact ⟨_, rfl, hb1, z_n⟩
theorem kG_spec {h : Heap} {n : Nat} {f : Nat} :
    Makes Tryd.prog 33 [.map (some f)] h n ([]) (fun v h2 _ => ∃ q, v = .func (.func 59) #[] #[.pointer (some ⟨q, 0, none⟩)] ∧ h2.get q = some (.cells [.map (some f)] true ⟨67, 0, true⟩) ∧ h.get q = none) := by
 refine Makes.free fun hf => ?_
 have hs : SubBut h h ([]) := .refl _ _
 have hn : n ≤ n := Nat.le_refl _
 have hf0 := hf
 refine Makes.of_bodyV (args := [.map (some f)]) (vs := [.map (some f), undef, undef, undef]) Tryd.func33 rfl rfl ?_
 refine AWp.seq (AWp.rowV (l := _) pok ?_)
 have z_n : h.get n = none := hf0 _ hn
 refine sq.op rfl rfl (Does.box (cs := [.map (some f)]) hf rfl rfl) ?_
 rintro _ h2 n3 ⟨rfl, hb1⟩ s4 hn2 hf
 refine sq.w ?_
 have hs := hs.trans s4
 have hn := Nat.le_trans hn hn2
 refine sq.c (v := .nilFunc) rfl rfl rfl rfl ?_
 refine sq.e (AWp.seq (AWp.rowV (l := _) pok ?_))
 refine sq.c (v := .func (.func 59) #[] #[.pointer (some ⟨n, 0, none⟩)]) rfl rfl rfl rfl ?_
 refine sq.c (v := .func (.func 59) #[] #[.pointer (some ⟨n, 0, none⟩)]) rfl rfl rfl rfl ?_
 refine sq.e ?_
 refine AWp.ret ?_
 refine ⟨rfl, [.func (.func 59) #[] #[.pointer (some ⟨n, 0, none⟩)]], rfl, .func (.func 59) #[] #[.pointer (some ⟨n, 0, none⟩)], rfl, hs, hn, ?_⟩
 exact ⟨_, rfl, hb1, z_n⟩
theorem fencesX_spec {h : Heap} {n : Nat} {b f g kf kg : Nat} {c : CI} (F : FM) (G : SM) (S : SP) (hb_ : h.get b = some (.cells [.map (some f), .map (some g)] true c)) (hf_ : h.get f = some (.map (mapE plV intV F) kf)) (hg_ : h.get g = some (.map (mapE plV ownV G) kg)) (okF : MOk F kf) (okG : MOk G kg) (hS : SMIs h G S) (ne_f_g : f ≠ g) (hlen : F.length ≤ 1000000000000) :
    Makes Tryd.prog 12 [.pointer (some ⟨b, 0, none⟩)] h n ([]) (fun v h2 _ => OwnRow encFen 56 h h2 v (fencesV F)) := by
 refine Makes.free fun hf => ?_
 have ne_b_f : b ≠ f := by intro e; subst e; rw [hb_] at hf_; cases hf_
 have ne_b_g : b ≠ g := by intro e; subst e; rw [hb_] at hg_; cases hg_
 have hkl := keysP_len F
 have hs : SubBut h h ([]) := .refl _ _
 have hn : n ≤ n := Nat.le_refl _
 have hf0 := hf
 refine Makes.of_bodyV (args := [.pointer (some ⟨b, 0, none⟩)]) (vs := [.pointer (some ⟨b, 0, none⟩), undef, undef, undef, undef, undef, undef, undef, undef, undef, undef, undef, undef, undef, undef, undef, undef, undef, undef, undef, undef, undef, undef, undef, undef, undef, undef, undef, undef, undef, undef, undef, undef, undef, undef]) Tryd.func12 rfl rfl ?_
 refine AWp.seq (AWp.rowV (l := _) pok ?_)
 refine sq.c (v := .slice none (0) (0)) rfl rfl rfl rfl ?_
 refine sq.e (AWp.seq (AWp.seq (AWp.rowV (l := _) pok ?_)))
 refine sq.c (v := .pointer (some ⟨b, 0, none⟩)) rfl rfl rfl rfl ?_
 refine sq.c (v := .bool false) rfl rfl (by kernel_rfl) rfl ?_
 refine sq.e ?_
 refine AWp.condF rfl rfl ?_
 refine AWp.skip (AWp.seq (AWp.rowV (l := _) pok ?_))
 refine sq.c (v := .slice none (0) (0)) rfl rfl rfl rfl ?_
 refine sq.e (AWp.seq (AWp.seq (AWp.rowV (l := _) pok ?_)))
 refine sq.c (v := .pointer (some ⟨b, 0, none⟩)) rfl rfl rfl rfl ?_
 refine sq.c (v := .pointer (some ⟨b, 0, none⟩)) rfl rfl rfl rfl ?_
 refine sq.c (v := .pointer (some ⟨b, 0, none⟩)) rfl rfl (by kernel_rfl) rfl ?_
 refine sq.c (v := .map (some f)) rfl rfl (ld1 (P := Tryd.prog) (t := 66) (p := 0) (v := .map (some f)) (by kernel_rfl) (by kernel_rfl) hb_ rfl) rfl ?_
 refine sq.k rfl (CallsF.fn rfl (by kernel_rfl) rfl rfl) (kF_spec) ?_
 rintro _ h1 n2 ⟨q_, rfl, hq_, y_q_⟩ s3 hn2 hf
 refine sq.w ?_
 have hb_ := s3.sub _ _ hb_
 have hf_ := s3.sub _ _ hf_
 have hg_ := s3.sub _ _ hg_
 have hs := hs.trans s3
 have hn := Nat.le_trans hn hn2
 refine sq.k rfl (CallsF.fn rfl (by kernel_rfl) rfl rfl) (keysF hq_ rfl hf_ okF hlen) ?_
 rintro v_p h4 n5 R_p s6 hn2 hf
 obtain ⟨a_p, c_p, rfl⟩ := R_p.slice
 refine sq.w ?_
 have hb_ := s6.sub _ _ hb_
 have hf_ := s6.sub _ _ hf_
 have hg_ := s6.sub _ _ hg_
 have hq_ := s6.sub _ _ hq_
 have hs := hs.trans s6
 have hn := Nat.le_trans hn hn2
 refine sq.c (v := .int .i64 ((((keysP F).length : Nat) : Int))) rfl rfl (by kernel_rfl) rfl ?_
 refine sq.c (v := .int .i64 (0)) rfl rfl rfl rfl ?_
 refine sq.e (AWp.block ?_)
 refine AWp.loopV (fun d vs h8 n9 => ∃ (i : Int) (os : List Fen) (a_o : Option Addr) (cp_o : Nat), d = (((keysP F).length : Nat) - i + 1).toNat ∧ SubBut h h8 ([]) ∧ n ≤ n9 ∧ Free h8 n9 ∧ h8.get b = some (.cells [.map (some f), .map (some g)] true c) ∧ h8.get f = some (.map (mapE plV intV F) kf) ∧ h8.get g = some (.map (mapE plV ownV G) kg) ∧ h8.get q_ = some (.cells [.map (some f)] true ⟨66, 0, true⟩) ∧ FRow encPlE h8 (.slice a_p (keysP F).length c_p) (keysP F) ∧ OwnRow encFen 56 h h8 (.slice a_o (os).length cp_o) (os) ∧ (∀ c ∈ blkOf (.slice a_o (os).length cp_o), c ≠ b) ∧ (∀ c ∈ blkOf (.slice a_o (os).length cp_o), c ≠ f) ∧ (∀ c ∈ blkOf (.slice a_o (os).length cp_o), c ≠ g) ∧ (∀ c ∈ blkOf (.slice a_o (os).length cp_o), c ≠ q_) ∧ (0 ≤ i) ∧ (i ≤ ((keysP F).length : Nat)) ∧ (os = ((keysP F).take i.toNat).map (fenAt F)) ∧ ∃ y7 : Nat → Value, vs = [.pointer (some ⟨b, 0, none⟩), undef, .slice none (0) (0), .slice a_o (os.length) cp_o, undef, (y7 5), .pointer (some ⟨b, 0, none⟩), .bool false, .pointer (some ⟨b, 0, none⟩), .pointer (some ⟨b, 0, none⟩), .pointer (some ⟨b, 0, none⟩), .map (some f), .func (.func 47) #[] #[.pointer (some ⟨q_, 0, none⟩)], .slice a_p (keysP F).length c_p, .int .i64 ((((keysP F).length : Nat) : Int)), .int .i64 (i), (y7 16), (y7 17), (y7 18), (y7 19), (y7 20), (y7 21), (y7 22), (y7 23), (y7 24), (y7 25), (y7 26), (y7 27), (y7 28), (y7 29), (y7 30), (y7 31), (y7 32), (y7 33), undef]) ((((keysP F).length : Nat) - (0 : Int) + 1).toNat) ⟨0, [], none, 0, rfl, hs, hn, hf, hb_, hf_, hg_, hq_, R_p, OwnRow.nil, (by simp [blkOf]), (by simp [blkOf]), (by simp [blkOf]), (by simp [blkOf]), (by omega), (by omega), (rfl), getV [undef, undef, undef, undef, undef, undef, undef, undef, undef, undef, undef, undef, undef, undef, undef, undef, undef, undef, undef, undef, undef, undef, undef, undef, undef, undef, undef, undef, undef, undef, undef, undef, undef, undef], rfl⟩ ?_
 rintro d vs h8 n9 ⟨i, os, a_o, cp_o, rfl, hs, hn, hf, hb_, hf_, hg_, hq_, R_p, R_o, d_o_b, d_o_f, d_o_g, d_o_q_, hi0, hi1, hos, y7, rfl⟩
 have hol : os.length = i.toNat := by rw [hos, List.length_map, List.length_take]; omega
 refine AWp.seq (AWp.rowV (l := _) pok ?_)
 refine sq.c (v := .bool (decide (i < ((((keysP F).length : Nat) : Int))))) rfl rfl rfl rfl ?_
 refine sq.e (AWp.seq ?_)
 by_cases c5_0 : i < ((((keysP F).length : Nat) : Int))
 ·rw [decide_eq_true c5_0]
  refine AWp.condT rfl rfl ?_
  refine AWp.skip (AWp.seq (AWp.block (AWp.seq (AWp.rowV (l := _) pok ?_))))
  have i16 : (0 : Int) ≤ (i : Int) := by omega
  obtain ⟨x17, hx_x17⟩ : ∃ x, (keysP F)[((i : Int)).toNat]? = some x := ⟨_, List.getElem?_eq_getElem (by omega)⟩
  obtain ⟨b10, o11, cs_b10, ow_b10, ci_b10, ie15, hb12, hc13, hr14⟩ := IsRow.at (P := Tryd.prog) (t := 70) (e := 73) (k := .i64) (by kernel_rfl) (by kernel_rfl) R_p.is i16 hx_x17
  refine sq.c (v := .pointer (some ⟨b10, o11, none⟩)) rfl rfl ie15 rfl ?_
  refine sq.c (v := .agg #[.string (x17.1), .string (x17.2)]) rfl rfl (ldR (P := Tryd.prog) (t := 73) (k := 2) (xs := [.string (x17.1), .string (x17.2)]) (by kernel_rfl) (by kernel_rfl) hr14) rfl ?_
  have e_b_n9 : b ≠ n9 := hf.ne hb_
  have e_f_n9 : f ≠ n9 := hf.ne hf_
  have e_g_n9 : g ≠ n9 := hf.ne hg_
  have e_q__n9 : q_ ≠ n9 := hf.ne hq_
  have d_o_n9 : ∀ c ∈ blkOf (.slice a_o (os).length cp_o), c ≠ n9 := fun c hc e => R_o.ne' (hf _ (Nat.le_refl _)) c hc (List.mem_singleton.2 e)
  have z_n9 : h.get n9 = none := hf0 _ hn
  refine sq.op rfl rfl (Does.alloc (cs := [.string (⟨#[]⟩), .string (⟨#[]⟩)]) hf (z := .agg #[.string (⟨#[]⟩), .string (⟨#[]⟩)]) (by kernel_rfl) rfl) ?_
  rintro _ h19 n20 ⟨rfl, hb18⟩ s21 hn2 hf
  refine sq.w ?_
  have R_p := R_p.keep (.of0 s21)
  have R_o := R_o.keep s21
  have hb_ := s21.sub _ _ hb_
  have hf_ := s21.sub _ _ hf_
  have hg_ := s21.sub _ _ hg_
  have hq_ := s21.sub _ _ hq_
  have hs := hs.trans s21
  have hn := Nat.le_trans hn hn2
  refine sq.op rfl rfl (Does.store (k := 2) (xs := [.string (x17.1), .string (x17.2)]) (cs' := [.string (x17.1), .string (x17.2)]) hf (by kernel_rfl) rfl rfl rfl hb18 rfl rfl (Nat.le_of_ble_eq_true rfl) rfl) ?_
  rintro _ h23 n24 ⟨rfl, hb22⟩ s25 hn2 hf
  refine sq.w0 ?_
  have R_p := R_p.keep (.own s25 hb18 rfl)
  have R_o := R_o.but s25 (fun c hc hm => d_o_n9 c hc (List.mem_singleton.1 hm))
  have hb_ := s25.get1 (e_b_n9) hb_
  have hf_ := s25.get1 (e_f_n9) hf_
  have hg_ := s25.get1 (e_g_n9) hg_
  have hq_ := s25.get1 (e_q__n9) hq_
  have hs := hs.fresh z_n9 s25
  have hn := Nat.le_trans hn hn2
  refine sq.e ?_
  refine AWp.anyK pok [0, 1, 2, 3, 4, 5, 6, 7, 8, 9, 10, 11, 12, 13, 14] (by kernel_rfl) (by kernel_rfl) rfl (fun x fr fr' h n hd _ q => ⟨hd ▸ q.1, q.2⟩) ?_
  refine dk.c (v := .slice a_o (os.length) cp_o) rfl (by kernel_rfl) rfl rfl rfl rfl ?_
  refine dk.c (v := .pointer (some ⟨n9, 0, none⟩)) rfl (by kernel_rfl) rfl rfl (by kernel_rfl) rfl ?_
  refine dk.gB (v := .string (x17.1)) n9 rfl (by kernel_rfl) rfl rfl (fun _ q_ => (ld1 (P := Tryd.prog) (t := 9) (p := 0) (v := .string (x17.1)) (by kernel_rfl) (by kernel_rfl) (q_ _ hb22) rfl)) rfl ?_
  refine dk.c (v := .pointer (some ⟨n9, 1, none⟩)) rfl (by kernel_rfl) rfl rfl (by kernel_rfl) rfl ?_
  refine dk.gB (v := .string (x17.2)) n9 rfl (by kernel_rfl) rfl rfl (fun _ q_ => (ld1 (P := Tryd.prog) (t := 9) (p := 1) (v := .string (x17.2)) (by kernel_rfl) (by kernel_rfl) (q_ _ hb22) rfl)) rfl ?_
  refine dk.c (v := .pointer (some ⟨b, 0, none⟩)) rfl (by kernel_rfl) rfl rfl rfl rfl ?_
  refine dk.c (v := .pointer (some ⟨b, 0, none⟩)) rfl (by kernel_rfl) rfl rfl rfl rfl ?_
  refine dk.c (v := .pointer (some ⟨b, 0, none⟩)) rfl (by kernel_rfl) rfl rfl (by kernel_rfl) rfl ?_
  refine dk.gB (v := .map (some f)) b rfl (by kernel_rfl) rfl rfl (fun _ q_ => (ld1 (P := Tryd.prog) (t := 66) (p := 0) (v := .map (some f)) (by kernel_rfl) (by kernel_rfl) (q_ _ hb_) rfl)) rfl ?_
  refine dk.gB (v := .agg #[.string (x17.1), .string (x17.2)]) n9 rfl (by kernel_rfl) rfl rfl (fun _ q_ => (ldA (P := Tryd.prog) (t := 73) (p := 0) (k := 2) (xs := [.string (x17.1), .string (x17.2)]) (by kernel_rfl) (by kernel_rfl) (q_ _ hb22) rfl (Nat.le_of_ble_eq_true rfl))) rfl ?_
  refine dk.gB (v := .int .i64 (((mget F (x17.1, x17.2)).getD 0))) f rfl (by kernel_rfl) rfl rfl (fun _ q_ => (lk (P := Tryd.prog) (K := plV) (V := intV) (kt := 73) (el := 2) (t := 66) (k := (x17.1, x17.2)) (d := (0 : Int)) Tryd.underlying66 keyPl (by kernel_rfl) rfl (q_ _ hf_))) rfl ?_
  refine dk.c (v := .agg #[.string (x17.1), .string (x17.2), .int .i64 (((mget F (x17.1, x17.2)).getD 0))]) rfl (by kernel_rfl) rfl rfl (by kernel_rfl) rfl ?_
  have d_o_n24 : ∀ c ∈ blkOf (.slice a_o (os).length cp_o), c ≠ n24 := fun c hc e => R_o.ne' (hf _ (Nat.le_refl _)) c hc (List.mem_singleton.2 e)
  refine dk.op rfl (by kernel_rfl) rfl rfl (Does.build (e := 56) (cs := [.string (x17.1), .string (x17.2), .int .i64 (((mget F (x17.1, x17.2)).getD 0))]) hf (fun _ _ => by kernel_rfl)) (keepC (by simp) (keepC (by simp) (keepC (by simp) (keepC (by simp) (keepC (by simp) keepN))))) ?_
  rintro _ h27 n28 ⟨rfl, hb26⟩ s29 hn2 hf
  refine dk.w ?_
  have R_p := R_p.keep (.of0 s29)
  have R_o := R_o.keep s29
  have hb_ := s29.sub _ _ hb_
  have hf_ := s29.sub _ _ hf_
  have hg_ := s29.sub _ _ hg_
  have hq_ := s29.sub _ _ hq_
  have hb22 := s29.sub _ _ hb22
  have hs := hs.trans s29
  have hn := Nat.le_trans hn hn2
  have hz0 : h.get n28 = none := hf0 _ hn
  have hfo := hf
  have hFo := R_o.ours
  refine dk.op rfl (by kernel_rfl) rfl rfl (Does.append (E := encFen) (xs := os) (ys := [(x17.1, x17.2, ((mget F (x17.1, x17.2)).getD 0))]) appFen ⟨.slice 56, by kernel_rfl, fun _ q => by cases q⟩ hf hs R_o (IsRow.of (E := encFen) (xs := [(x17.1, x17.2, ((mget F (x17.1, x17.2)).getD 0))]) (cap := 1) hb26 (Nat.le_refl _)) rfl rfl (by have := keysP_len F; simp only [List.length_cons, List.length_nil]; omega) (by have := keysP_len F; simp only [List.length_cons, List.length_nil]; omega) hz0) (keepC (fun hm => d_o_f _ hm rfl) (keepC (fun hm => d_o_n9 _ hm rfl) (keepC (fun hm => d_o_b _ hm rfl) (keepC (fun hm => d_o_n9 _ hm rfl) (keepC (fun hm => d_o_n9 _ hm rfl) keepN))))) ?_
  rintro v33 h30 n31 ⟨R_o, hs, hB34⟩ s32 hn2 hf
  refine dk.w ?_
  have dn_o_b : ∀ c ∈ blkOf v33, c ≠ b := fun c hc => (hB34 c hc).elim (fun q => d_o_b c q) (fun q => by rw [q]; exact (hfo.ne hb_).symm)
  have dn_o_f : ∀ c ∈ blkOf v33, c ≠ f := fun c hc => (hB34 c hc).elim (fun q => d_o_f c q) (fun q => by rw [q]; exact (hfo.ne hf_).symm)
  have dn_o_g : ∀ c ∈ blkOf v33, c ≠ g := fun c hc => (hB34 c hc).elim (fun q => d_o_g c q) (fun q => by rw [q]; exact (hfo.ne hg_).symm)
  have dn_o_q_ : ∀ c ∈ blkOf v33, c ≠ q_ := fun c hc => (hB34 c hc).elim (fun q => d_o_q_ c q) (fun q => by rw [q]; exact (hfo.ne hq_).symm)
  have dn_o_n9 : ∀ c ∈ blkOf v33, c ≠ n9 := fun c hc => (hB34 c hc).elim (fun q => d_o_n9 c q) (fun q => by rw [q]; exact (hfo.ne hb22).symm)
  have dn_o_n24 : ∀ c ∈ blkOf v33, c ≠ n24 := fun c hc => (hB34 c hc).elim (fun q => d_o_n24 c q) (fun q => by rw [q]; exact (hfo.ne hb26).symm)
  have ours_s32 := hFo
  have hb_ := s32 _ _ (fun hm => d_o_b _ hm rfl) hb_
  have hf_ := s32 _ _ (fun hm => d_o_f _ hm rfl) hf_
  have hg_ := s32 _ _ (fun hm => d_o_g _ hm rfl) hg_
  have hq_ := s32 _ _ (fun hm => d_o_q_ _ hm rfl) hq_
  have R_p := R_p.keep (.of s32 ours_s32)
  have hb22 := s32 _ _ (fun hm => d_o_n9 _ hm rfl) hb22
  have hb26 := s32 _ _ (fun hm => d_o_n24 _ hm rfl) hb26
  have d_o_b := dn_o_b
  have d_o_f := dn_o_f
  have d_o_g := dn_o_g
  have d_o_q_ := dn_o_q_
  have d_o_n9 := dn_o_n9
  have d_o_n24 := dn_o_n24
  obtain ⟨a35, cp36, rfl⟩ := R_o.slice
  have hn := Nat.le_trans hn hn2
  refine dk.c (v := .slice a35 (os ++ [(x17.1, x17.2, ((mget F (x17.1, x17.2)).getD 0))]).length cp36) rfl (by kernel_rfl) rfl rfl rfl rfl ?_
  refine dk.e (AWp.rowV (l := _) pok ?_)
  refine sq.c (v := .int .i64 (i + 1)) rfl rfl (okI (wrap_i64 (by omega) (by omega))) rfl ?_
  refine sq.c (v := .int .i64 (i + 1)) rfl rfl rfl rfl ?_
  refine sq.e ?_
  refine ⟨_, _, rfl, (by omega), i + 1, os ++ [fenAt F x17], a35, cp36, rfl, hs, hn, hf, hb_, hf_, hg_, hq_, R_p, R_o, d_o_b, d_o_f, d_o_g, d_o_q_, (by omega), (by omega), (by rw [take_snoc hi0 hx_x17, List.map_append, ← hos]; rfl), getV [undef, undef, undef, undef, undef, .pointer (some ⟨n9, 0, none⟩), undef, undef, undef, undef, undef, undef, undef, undef, undef, undef, .bool true, .pointer (some ⟨b10, o11, none⟩), .agg #[.string (x17.1), .string (x17.2)], .slice a_o (os.length) cp_o, .pointer (some ⟨n9, 0, none⟩), .string (x17.1), .pointer (some ⟨n9, 1, none⟩), .string (x17.2), .pointer (some ⟨b, 0, none⟩), .pointer (some ⟨b, 0, none⟩), .pointer (some ⟨b, 0, none⟩), .map (some f), .agg #[.string (x17.1), .string (x17.2)], .int .i64 (((mget F (x17.1, x17.2)).getD 0)), .agg #[.string (x17.1), .string (x17.2), .int .i64 (((mget F (x17.1, x17.2)).getD 0))], .slice (some ⟨n24, 0, none⟩) (1) (1), .slice a35 (os ++ [(x17.1, x17.2, ((mget F (x17.1, x17.2)).getD 0))]).length cp36, .int .i64 (i + 1)], rfl⟩
 ·rw [decide_eq_false c5_0]
  refine AWp.condF rfl rfl ?_
  refine AWp.exit ?_
  refine AWp.seq (AWp.rowV (l := _) pok ?_)
  refine sq.c (v := .slice a_o (os.length) cp_o) rfl rfl rfl rfl ?_
  refine sq.c (v := .slice a_o (os.length) cp_o) rfl rfl rfl rfl ?_
  refine sq.e ?_
  refine AWp.ret ?_
  refine ⟨rfl, [.slice a_o (os.length) cp_o], rfl, .slice a_o (os.length) cp_o, rfl, hs, hn, ?_⟩
  rw [show i.toNat = (keysP F).length by omega, List.take_length] at hos
  subst hos
  exact R_o
theorem allX_spec {h : Heap} {n : Nat} {b f g kf kg : Nat} {c : CI} (F : FM) (G : SM) (S : SP) (hb_ : h.get b = some (.cells [.map (some f), .map (some g)] true c)) (hf_ : h.get f = some (.map (mapE plV intV F) kf)) (hg_ : h.get g = some (.map (mapE plV ownV G) kg)) (okF : MOk F kf) (okG : MOk G kg) (hS : SMIs h G S) (ne_f_g : f ≠ g) {N : Nat} (hlen : G.length ≤ 1000000000000) (hinv : InvS N S) (hN : N < 1000000000000) :
    Makes Tryd.prog 15 [.pointer (some ⟨b, 0, none⟩)] h n ([]) (fun v h2 _ => ∃ os, OwnRow encOwn 45 h h2 v os ∧ FOwns h2 os (allV S)) := by
 refine Makes.free fun hf => ?_
 have ne_b_f : b ≠ f := by intro e; subst e; rw [hb_] at hf_; cases hf_
 have ne_b_g : b ≠ g := by intro e; subst e; rw [hb_] at hg_; cases hg_
 have hkl := keysP_len G
 have hs : SubBut h h ([]) := .refl _ _
 have hn : n ≤ n := Nat.le_refl _
 have hf0 := hf
 refine Makes.of_bodyV (args := [.pointer (some ⟨b, 0, none⟩)]) (vs := [.pointer (some ⟨b, 0, none⟩), undef, undef, undef, undef, undef, undef, undef, undef, undef, undef, undef, undef, undef, undef, undef, undef, undef, undef, undef, undef, undef, undef, undef, undef, undef, undef, undef, undef, undef, undef, undef, undef, undef, undef, undef, undef, undef, undef, undef, undef]) Tryd.func15 rfl rfl ?_
 refine AWp.seq (AWp.rowV (l := _) pok ?_)
 refine sq.c (v := .slice none (0) (0)) rfl rfl rfl rfl ?_
 refine sq.e (AWp.seq (AWp.seq (AWp.rowV (l := _) pok ?_)))
 refine sq.c (v := .pointer (some ⟨b, 0, none⟩)) rfl rfl rfl rfl ?_
 refine sq.c (v := .bool false) rfl rfl (by kernel_rfl) rfl ?_
 refine sq.e ?_
 refine AWp.condF rfl rfl ?_
 refine AWp.skip (AWp.seq (AWp.rowV (l := _) pok ?_))
 refine sq.c (v := .slice none (0) (0)) rfl rfl rfl rfl ?_
 refine sq.e (AWp.seq (AWp.seq (AWp.rowV (l := _) pok ?_)))
 refine sq.c (v := .pointer (some ⟨b, 0, none⟩)) rfl rfl rfl rfl ?_
 refine sq.c (v := .pointer (some ⟨b, 0, none⟩)) rfl rfl rfl rfl ?_
 refine sq.c (v := .pointer (some ⟨b, 1, none⟩)) rfl rfl (by kernel_rfl) rfl ?_
 refine sq.c (v := .map (some g)) rfl rfl (ld1 (P := Tryd.prog) (t := 67) (p := 1) (v := .map (some g)) (by kernel_rfl) (by kernel_rfl) hb_ rfl) rfl ?_
 refine sq.k rfl (CallsF.fn rfl (by kernel_rfl) rfl rfl) (kG_spec) ?_
 rintro _ h1 n2 ⟨q_, rfl, hq_, y_q_⟩ s3 hn2 hf
 refine sq.w ?_
 have hS := hS.keep (.of0 s3)
 have hb_ := s3.sub _ _ hb_
 have hf_ := s3.sub _ _ hf_
 have hg_ := s3.sub _ _ hg_
 have hs := hs.trans s3
 have hn := Nat.le_trans hn hn2
 refine sq.k rfl (CallsF.fn rfl (by kernel_rfl) rfl rfl) (keysG hq_ rfl hg_ okG hlen) ?_
 rintro v_p h4 n5 R_p s6 hn2 hf
 obtain ⟨a_p, c_p, rfl⟩ := R_p.slice
 refine sq.w ?_
 have hS := hS.keep (.of0 s6)
 have hb_ := s6.sub _ _ hb_
 have hf_ := s6.sub _ _ hf_
 have hg_ := s6.sub _ _ hg_
 have hq_ := s6.sub _ _ hq_
 have hs := hs.trans s6
 have hn := Nat.le_trans hn hn2
 refine sq.c (v := .int .i64 ((((keysP G).length : Nat) : Int))) rfl rfl (by kernel_rfl) rfl ?_
 refine sq.c (v := .int .i64 (0)) rfl rfl rfl rfl ?_
 refine sq.e (AWp.block ?_)
 refine AWp.loopV (fun d vs h8 n9 => ∃ (i : Int) (os : List ROwn) (ps : List POwn) (a_o : Option Addr) (cp_o : Nat), d = (((keysP G).length : Nat) - i + 1).toNat ∧ SubBut h h8 ([]) ∧ n ≤ n9 ∧ Free h8 n9 ∧ h8.get b = some (.cells [.map (some f), .map (some g)] true c) ∧ h8.get f = some (.map (mapE plV intV F) kf) ∧ h8.get g = some (.map (mapE plV ownV G) kg) ∧ SMIs h8 G S ∧ h8.get q_ = some (.cells [.map (some g)] true ⟨67, 0, true⟩) ∧ FRow encPlE h8 (.slice a_p (keysP G).length c_p) (keysP G) ∧ FOwns h8 os ps ∧ OwnRow encOwn 45 h h8 (.slice a_o (os).length cp_o) (os) ∧ (∀ c ∈ blkOf (.slice a_o (os).length cp_o), c ≠ b) ∧ (∀ c ∈ blkOf (.slice a_o (os).length cp_o), c ≠ f) ∧ (∀ c ∈ blkOf (.slice a_o (os).length cp_o), c ≠ g) ∧ (∀ c ∈ blkOf (.slice a_o (os).length cp_o), c ≠ q_) ∧ (0 ≤ i) ∧ (i ≤ ((keysP G).length : Nat)) ∧ (ps = ((keysP G).take i.toNat).map (ownAt S)) ∧ (os.length = ps.length) ∧ ∃ y7 : Nat → Value, vs = [.pointer (some ⟨b, 0, none⟩), undef, .slice none (0) (0), .slice a_o (os.length) cp_o, undef, (y7 5), (y7 6), .pointer (some ⟨b, 0, none⟩), .bool false, .pointer (some ⟨b, 0, none⟩), .pointer (some ⟨b, 0, none⟩), .pointer (some ⟨b, 1, none⟩), .map (some g), .func (.func 59) #[] #[.pointer (some ⟨q_, 0, none⟩)], .slice a_p (keysP G).length c_p, .int .i64 ((((keysP G).length : Nat) : Int)), .int .i64 (i), (y7 17), (y7 18), (y7 19), (y7 20), (y7 21), (y7 22), (y7 23), (y7 24), (y7 25), (y7 26), (y7 27), (y7 28), (y7 29), (y7 30), (y7 31), (y7 32), (y7 33), (y7 34), (y7 35), (y7 36), (y7 37), (y7 38), (y7 39), undef]) ((((keysP G).length : Nat) - (0 : Int) + 1).toNat) ⟨0, [], [], none, 0, rfl, hs, hn, hf, hb_, hf_, hg_, hS, hq_, R_p, (FOwns.nil _), OwnRow.nil, (by simp [blkOf]), (by simp [blkOf]), (by simp [blkOf]), (by simp [blkOf]), (by omega), (by omega), (rfl), (rfl), getV [undef, undef, undef, undef, undef, undef, undef, undef, undef, undef, undef, undef, undef, undef, undef, undef, undef, undef, undef, undef, undef, undef, undef, undef, undef, undef, undef, undef, undef, undef, undef, undef, undef, undef, undef, undef, undef, undef, undef, undef], rfl⟩ ?_
 rintro d vs h8 n9 ⟨i, os, ps, a_o, cp_o, rfl, hs, hn, hf, hb_, hf_, hg_, hS, hq_, R_p, D, R_o, d_o_b, d_o_f, d_o_g, d_o_q_, hi0, hi1, hos, hop, y7, rfl⟩
 have hol : ps.length = i.toNat := by rw [hos, List.length_map, List.length_take]; omega
 refine AWp.seq (AWp.rowV (l := _) pok ?_)
 refine sq.c (v := .bool (decide (i < ((((keysP G).length : Nat) : Int))))) rfl rfl rfl rfl ?_
 refine sq.e (AWp.seq ?_)
 by_cases c5_0 : i < ((((keysP G).length : Nat) : Int))
 ·rw [decide_eq_true c5_0]
  refine AWp.condT rfl rfl ?_
  refine AWp.skip (AWp.seq (AWp.block (AWp.seq (AWp.rowV (l := _) pok ?_))))
  have i16 : (0 : Int) ≤ (i : Int) := by omega
  obtain ⟨x17, hx_x17⟩ : ∃ x, (keysP G)[((i : Int)).toNat]? = some x := ⟨_, List.getElem?_eq_getElem (by omega)⟩
  obtain ⟨b10, o11, cs_b10, ow_b10, ci_b10, ie15, hb12, hc13, hr14⟩ := IsRow.at (P := Tryd.prog) (t := 70) (e := 73) (k := .i64) (by kernel_rfl) (by kernel_rfl) R_p.is i16 hx_x17
  refine sq.c (v := .pointer (some ⟨b10, o11, none⟩)) rfl rfl ie15 rfl ?_
  refine sq.c (v := .agg #[.string (x17.1), .string (x17.2)]) rfl rfl (ldR (P := Tryd.prog) (t := 73) (k := 2) (xs := [.string (x17.1), .string (x17.2)]) (by kernel_rfl) (by kernel_rfl) hr14) rfl ?_
  have e_b_n9 : b ≠ n9 := hf.ne hb_
  have e_f_n9 : f ≠ n9 := hf.ne hf_
  have e_g_n9 : g ≠ n9 := hf.ne hg_
  have e_q__n9 : q_ ≠ n9 := hf.ne hq_
  have d_o_n9 : ∀ c ∈ blkOf (.slice a_o (os).length cp_o), c ≠ n9 := fun c hc e => R_o.ne' (hf _ (Nat.le_refl _)) c hc (List.mem_singleton.2 e)
  have z_n9 : h.get n9 = none := hf0 _ hn
  refine sq.op rfl rfl (Does.alloc (cs := [.string (⟨#[]⟩), .string (⟨#[]⟩)]) hf (z := .agg #[.string (⟨#[]⟩), .string (⟨#[]⟩)]) (by kernel_rfl) rfl) ?_
  rintro _ h19 n20 ⟨rfl, hb18⟩ s21 hn2 hf
  refine sq.w ?_
  have hS := hS.keep (.of0 s21)
  have R_p := R_p.keep (.of0 s21)
  have D := D.keep (.of0 s21)
  have R_o := R_o.keep s21
  have hb_ := s21.sub _ _ hb_
  have hf_ := s21.sub _ _ hf_
  have hg_ := s21.sub _ _ hg_
  have hq_ := s21.sub _ _ hq_
  have hs := hs.trans s21
  have hn := Nat.le_trans hn hn2
  refine sq.op rfl rfl (Does.store (k := 2) (xs := [.string (x17.1), .string (x17.2)]) (cs' := [.string (x17.1), .string (x17.2)]) hf (by kernel_rfl) rfl rfl rfl hb18 rfl rfl (Nat.le_of_ble_eq_true rfl) rfl) ?_
  rintro _ h23 n24 ⟨rfl, hb22⟩ s25 hn2 hf
  refine sq.w0 ?_
  have hS := hS.keep (.own s25 hb18 rfl)
  have R_p := R_p.keep (.own s25 hb18 rfl)
  have D := D.keep (.own s25 hb18 rfl)
  have R_o := R_o.but s25 (fun c hc hm => d_o_n9 c hc (List.mem_singleton.1 hm))
  have hb_ := s25.get1 (e_b_n9) hb_
  have hf_ := s25.get1 (e_f_n9) hf_
  have hg_ := s25.get1 (e_g_n9) hg_
  have hq_ := s25.get1 (e_q__n9) hq_
  have hs := hs.fresh z_n9 s25
  have hn := Nat.le_trans hn hn2
  refine sq.e (AWp.seq ?_)
  refine AWp.anyK pok [0, 1, 2, 3, 4, 5, 6, 7] (by kernel_rfl) (by kernel_rfl) rfl (fun x fr fr' h n hd _ q => ⟨hd ▸ q.1, q.2⟩) ?_
  refine dk.c (v := .pointer (some ⟨b, 0, none⟩)) rfl (by kernel_rfl) rfl rfl rfl rfl ?_
  refine dk.c (v := .pointer (some ⟨b, 0, none⟩)) rfl (by kernel_rfl) rfl rfl rfl rfl ?_
  refine dk.c (v := .pointer (some ⟨b, 1, none⟩)) rfl (by kernel_rfl) rfl rfl (by kernel_rfl) rfl ?_
  refine dk.gB (v := .map (some g)) b rfl (by kernel_rfl) rfl rfl (fun _ q_ => (ld1 (P := Tryd.prog) (t := 67) (p := 1) (v := .map (some g)) (by kernel_rfl) (by kernel_rfl) (q_ _ hb_) rfl)) rfl ?_
  refine dk.gB (v := .agg #[.string (x17.1), .string (x17.2)]) n9 rfl (by kernel_rfl) rfl rfl (fun _ q_ => (ldA (P := Tryd.prog) (t := 73) (p := 0) (k := 2) (xs := [.string (x17.1), .string (x17.2)]) (by kernel_rfl) (by kernel_rfl) (q_ _ hb22) rfl (Nat.le_of_ble_eq_true rfl))) rfl ?_
  obtain ⟨a1_g7_5, c1_g7_5, a2_g7_5, c2_g7_5, e_g7_5, L_g7_5, M_g7_5⟩ := hS.look (x17.1, x17.2)
  refine dk.gB (v := .agg #[.slice a1_g7_5 ((mget S (x17.1, x17.2)).getD ([], [])).1.length c1_g7_5, .slice a2_g7_5 ((mget S (x17.1, x17.2)).getD ([], [])).2.length c2_g7_5]) g rfl (by kernel_rfl) rfl rfl (fun _ q_ => ((lk (P := Tryd.prog) (K := plV) (V := ownV) (kt := 73) (el := 86) (t := 67) (k := (x17.1, x17.2)) (d := dOV) Tryd.underlying67 keyPl (by kernel_rfl) rfl (q_ _ hg_)).trans (congrArg (fun z => some (ownV z)) e_g7_5))) rfl ?_
  have e_b_n24 : b ≠ n24 := hf.ne hb_
  have e_f_n24 : f ≠ n24 := hf.ne hf_
  have e_g_n24 : g ≠ n24 := hf.ne hg_
  have e_q__n24 : q_ ≠ n24 := hf.ne hq_
  have e_n9_n24 : n9 ≠ n24 := hf.ne hb22
  have d_o_n24 : ∀ c ∈ blkOf (.slice a_o (os).length cp_o), c ≠ n24 := fun c hc e => R_o.ne' (hf _ (Nat.le_refl _)) c hc (List.mem_singleton.2 e)
  have z_n24 : h.get n24 = none := hf0 _ hn
  refine dk.op rfl (by kernel_rfl) rfl rfl (Does.alloc (cs := [.slice none (0) (0), .slice none (0) (0)]) hf (z := .agg #[.slice none (0) (0), .slice none (0) (0)]) (by kernel_rfl) rfl) (keepC (by simp) (keepC (by simp) (keepC (by simp) keepN))) ?_
  rintro _ h27 n28 ⟨rfl, hb26⟩ s29 hn2 hf
  refine dk.w ?_
  have hS := hS.keep (.of0 s29)
  have R_p := R_p.keep (.of0 s29)
  have D := D.keep (.of0 s29)
  have R_o := R_o.keep s29
  have L_g7_5 := L_g7_5.keep (.of0 s29)
  have M_g7_5 := M_g7_5.keep (.of0 s29)
  have hb_ := s29.sub _ _ hb_
  have hf_ := s29.sub _ _ hf_
  have hg_ := s29.sub _ _ hg_
  have hq_ := s29.sub _ _ hq_
  have hb22 := s29.sub _ _ hb22
  have hs := hs.trans s29
  have hn := Nat.le_trans hn hn2
  refine dk.op rfl (by kernel_rfl) rfl rfl (Does.store (k := 2) (xs := [.slice a1_g7_5 ((mget S (x17.1, x17.2)).getD ([], [])).1.length c1_g7_5, .slice a2_g7_5 ((mget S (x17.1, x17.2)).getD ([], [])).2.length c2_g7_5]) (cs' := [.slice a1_g7_5 ((mget S (x17.1, x17.2)).getD ([], [])).1.length c1_g7_5, .slice a2_g7_5 ((mget S (x17.1, x17.2)).getD ([], [])).2.length c2_g7_5]) hf (by kernel_rfl) rfl rfl rfl hb26 rfl rfl (Nat.le_of_ble_eq_true rfl) rfl) (keepC (fun hm => e_g_n24 (List.mem_singleton.1 hm)) (keepC (fun hm => e_n9_n24 (List.mem_singleton.1 hm)) (keepC (fun hm => e_b_n24 (List.mem_singleton.1 hm)) keepN))) ?_
  rintro _ h31 n32 ⟨rfl, hb30⟩ s33 hn2 hf
  refine dk.w0 ?_
  have hS := hS.keep (.own s33 hb26 rfl)
  have R_p := R_p.keep (.own s33 hb26 rfl)
  have D := D.keep (.own s33 hb26 rfl)
  have R_o := R_o.but s33 (fun c hc hm => d_o_n24 c hc (List.mem_singleton.1 hm))
  have L_g7_5 := L_g7_5.keep (.own s33 hb26 rfl)
  have M_g7_5 := M_g7_5.keep (.own s33 hb26 rfl)
  have hb_ := s33.get1 (e_b_n24) hb_
  have hf_ := s33.get1 (e_f_n24) hf_
  have hg_ := s33.get1 (e_g_n24) hg_
  have hq_ := s33.get1 (e_q__n24) hq_
  have hb22 := s33.get1 (e_n9_n24) hb22
  have hs := hs.fresh z_n24 s33
  have hn := Nat.le_trans hn hn2
  refine dk.e ?_
  refine AWp.anyK pok [0, 1, 2, 3, 4, 6, 7, 5, 8, 9, 10, 11, 12, 13] (by kernel_rfl) (by kernel_rfl) rfl (fun x fr fr' h n hd _ q => ⟨hd ▸ q.1, q.2⟩) ?_
  refine dk.c (v := .slice a_o (os.length) cp_o) rfl (by kernel_rfl) rfl rfl rfl rfl ?_
  refine dk.c (v := .pointer (some ⟨n9, 0, none⟩)) rfl (by kernel_rfl) rfl rfl (by kernel_rfl) rfl ?_
  refine dk.gB (v := .string (x17.1)) n9 rfl (by kernel_rfl) rfl rfl (fun _ q_ => (ld1 (P := Tryd.prog) (t := 9) (p := 0) (v := .string (x17.1)) (by kernel_rfl) (by kernel_rfl) (q_ _ hb22) rfl)) rfl ?_
  refine dk.c (v := .pointer (some ⟨n24, 0, none⟩)) rfl (by kernel_rfl) rfl rfl (by kernel_rfl) rfl ?_
  refine dk.gB (v := .slice a1_g7_5 ((mget S (x17.1, x17.2)).getD ([], [])).1.length c1_g7_5) n24 rfl (by kernel_rfl) rfl rfl (fun _ q_ => (ld1 (P := Tryd.prog) (t := 40) (p := 0) (v := .slice a1_g7_5 ((mget S (x17.1, x17.2)).getD ([], [])).1.length c1_g7_5) (by kernel_rfl) (by kernel_rfl) (q_ _ hb30) rfl)) rfl ?_
  refine dk.c (v := .pointer (some ⟨n24, 1, none⟩)) rfl (by kernel_rfl) rfl rfl (by kernel_rfl) rfl ?_
  refine dk.gB (v := .slice a2_g7_5 ((mget S (x17.1, x17.2)).getD ([], [])).2.length c2_g7_5) n24 rfl (by kernel_rfl) rfl rfl (fun _ q_ => (ld1 (P := Tryd.prog) (t := 41) (p := 1) (v := .slice a2_g7_5 ((mget S (x17.1, x17.2)).getD ([], [])).2.length c2_g7_5) (by kernel_rfl) (by kernel_rfl) (q_ _ hb30) rfl)) rfl ?_
  refine dk.k rfl (by kernel_rfl) rfl (CallsF.fn rfl (by kernel_rfl) rfl rfl) (cloneLFz _ L_g7_5.is (by have := (hinv.was2 (x17.1, x17.2)); omega)) (keepC (by simp) (keepC (by simp) (keepC (by simp) keepN))) ?_
  rintro v_q33 h34 n35 R_q33 s36 hn2 hf
  obtain ⟨a_q33, c_q33, rfl⟩ := R_q33.slice
  refine dk.w ?_
  have hS := hS.keep (.of0 s36)
  have R_p := R_p.keep (.of0 s36)
  have D := D.keep (.of0 s36)
  have R_o := R_o.keep s36
  have M_g7_5 := M_g7_5.keep (.of0 s36)
  have hb_ := s36.sub _ _ hb_
  have hf_ := s36.sub _ _ hf_
  have hg_ := s36.sub _ _ hg_
  have hq_ := s36.sub _ _ hq_
  have hb22 := s36.sub _ _ hb22
  have hb30 := s36.sub _ _ hb30
  have hs := hs.trans s36
  have hn := Nat.le_trans hn hn2
  refine dk.k rfl (by kernel_rfl) rfl (CallsF.fn rfl (by kernel_rfl) rfl rfl) (cloneSFz _ M_g7_5.is (by have := (hinv.was (x17.1, x17.2)).2; unfold wasOf at this; omega)) (keepC (by simp) (keepC (by simp) (keepC (by simp) keepN))) ?_
  rintro v_q36 h37 n38 R_q36 s39 hn2 hf
  obtain ⟨a_q36, c_q36, rfl⟩ := R_q36.slice
  refine dk.w ?_
  have hS := hS.keep (.of0 s39)
  have R_p := R_p.keep (.of0 s39)
  have D := D.keep (.of0 s39)
  have R_o := R_o.keep s39
  have R_q33 := R_q33.keep (.of0 s39)
  have hb_ := s39.sub _ _ hb_
  have hf_ := s39.sub _ _ hf_
  have hg_ := s39.sub _ _ hg_
  have hq_ := s39.sub _ _ hq_
  have hb22 := s39.sub _ _ hb22
  have hb30 := s39.sub _ _ hb30
  have hs := hs.trans s39
  have hn := Nat.le_trans hn hn2
  refine dk.c (v := .agg #[.slice a_q33 (((mget S (x17.1, x17.2)).getD ([], [])).1).length c_q33, .slice a_q36 (((mget S (x17.1, x17.2)).getD ([], [])).2).length c_q36]) rfl (by kernel_rfl) rfl rfl (by kernel_rfl) rfl ?_
  refine dk.c (v := .agg #[.string (x17.1), .slice a_q33 (((mget S (x17.1, x17.2)).getD ([], [])).1).length c_q33, .slice a_q36 (((mget S (x17.1, x17.2)).getD ([], [])).2).length c_q36]) rfl (by kernel_rfl) rfl rfl (by kernel_rfl) rfl ?_
  have d_o_n38 : ∀ c ∈ blkOf (.slice a_o (os).length cp_o), c ≠ n38 := fun c hc e => R_o.ne' (hf _ (Nat.le_refl _)) c hc (List.mem_singleton.2 e)
  refine dk.op rfl (by kernel_rfl) rfl rfl (Does.build (e := 45) (cs := [.string (x17.1), .slice a_q33 (((mget S (x17.1, x17.2)).getD ([], [])).1).length c_q33, .slice a_q36 (((mget S (x17.1, x17.2)).getD ([], [])).2).length c_q36]) hf (fun _ _ => by kernel_rfl)) (keepC (by simp) (keepC (by simp) (keepC (by simp) keepN))) ?_
  rintro _ h41 n42 ⟨rfl, hb40⟩ s43 hn2 hf
  refine dk.w ?_
  have hS := hS.keep (.of0 s43)
  have R_p := R_p.keep (.of0 s43)
  have D := D.keep (.of0 s43)
  have R_o := R_o.keep s43
  have R_q33 := R_q33.keep (.of0 s43)
  have R_q36 := R_q36.keep (.of0 s43)
  have hb_ := s43.sub _ _ hb_
  have hf_ := s43.sub _ _ hf_
  have hg_ := s43.sub _ _ hg_
  have hq_ := s43.sub _ _ hq_
  have hb22 := s43.sub _ _ hb22
  have hb30 := s43.sub _ _ hb30
  have hs := hs.trans s43
  have hn := Nat.le_trans hn hn2
  have hz0 : h.get n42 = none := hf0 _ hn
  have hfo := hf
  have hFo := R_o.ours
  refine dk.op rfl (by kernel_rfl) rfl rfl (Does.append (E := encOwn) (xs := os) (ys := [(x17.1, (a_q33, (((mget S (x17.1, x17.2)).getD ([], [])).1).length, c_q33), (a_q36, (((mget S (x17.1, x17.2)).getD ([], [])).2).length, c_q36))]) appOwn ⟨.slice 45, by kernel_rfl, fun _ q => by cases q⟩ hf hs R_o (IsRow.of (E := encOwn) (xs := [(x17.1, (a_q33, (((mget S (x17.1, x17.2)).getD ([], [])).1).length, c_q33), (a_q36, (((mget S (x17.1, x17.2)).getD ([], [])).2).length, c_q36))]) (cap := 1) hb40 (Nat.le_refl _)) rfl rfl (by have := keysP_len G; simp only [List.length_cons, List.length_nil]; omega) (by have := keysP_len G; simp only [List.length_cons, List.length_nil]; omega) hz0) (keepC (fun hm => d_o_n24 _ hm rfl) (keepC (fun hm => d_o_n24 _ hm rfl) (keepC (fun hm => d_o_n9 _ hm rfl) keepN))) ?_
  rintro v47 h44 n45 ⟨R_o, hs, hB48⟩ s46 hn2 hf
  refine dk.w ?_
  have dn_o_b : ∀ c ∈ blkOf v47, c ≠ b := fun c hc => (hB48 c hc).elim (fun q => d_o_b c q) (fun q => by rw [q]; exact (hfo.ne hb_).symm)
  have dn_o_f : ∀ c ∈ blkOf v47, c ≠ f := fun c hc => (hB48 c hc).elim (fun q => d_o_f c q) (fun q => by rw [q]; exact (hfo.ne hf_).symm)
  have dn_o_g : ∀ c ∈ blkOf v47, c ≠ g := fun c hc => (hB48 c hc).elim (fun q => d_o_g c q) (fun q => by rw [q]; exact (hfo.ne hg_).symm)
  have dn_o_q_ : ∀ c ∈ blkOf v47, c ≠ q_ := fun c hc => (hB48 c hc).elim (fun q => d_o_q_ c q) (fun q => by rw [q]; exact (hfo.ne hq_).symm)
  have dn_o_n9 : ∀ c ∈ blkOf v47, c ≠ n9 := fun c hc => (hB48 c hc).elim (fun q => d_o_n9 c q) (fun q => by rw [q]; exact (hfo.ne hb22).symm)
  have dn_o_n24 : ∀ c ∈ blkOf v47, c ≠ n24 := fun c hc => (hB48 c hc).elim (fun q => d_o_n24 c q) (fun q => by rw [q]; exact (hfo.ne hb30).symm)
  have dn_o_n38 : ∀ c ∈ blkOf v47, c ≠ n38 := fun c hc => (hB48 c hc).elim (fun q => d_o_n38 c q) (fun q => by rw [q]; exact (hfo.ne hb40).symm)
  have ours_s46 := hFo
  have hb_ := s46 _ _ (fun hm => d_o_b _ hm rfl) hb_
  have hf_ := s46 _ _ (fun hm => d_o_f _ hm rfl) hf_
  have hg_ := s46 _ _ (fun hm => d_o_g _ hm rfl) hg_
  have hS := hS.keep (.of s46 ours_s46)
  have hq_ := s46 _ _ (fun hm => d_o_q_ _ hm rfl) hq_
  have R_p := R_p.keep (.of s46 ours_s46)
  have D := D.keep (.of s46 ours_s46)
  have hb22 := s46 _ _ (fun hm => d_o_n9 _ hm rfl) hb22
  have hb30 := s46 _ _ (fun hm => d_o_n24 _ hm rfl) hb30
  have R_q33 := R_q33.keep (.of s46 ours_s46)
  have R_q36 := R_q36.keep (.of s46 ours_s46)
  have hb40 := s46 _ _ (fun hm => d_o_n38 _ hm rfl) hb40
  have d_o_b := dn_o_b
  have d_o_f := dn_o_f
  have d_o_g := dn_o_g
  have d_o_q_ := dn_o_q_
  have d_o_n9 := dn_o_n9
  have d_o_n24 := dn_o_n24
  have d_o_n38 := dn_o_n38
  obtain ⟨a49, cp50, rfl⟩ := R_o.slice
  have hn := Nat.le_trans hn hn2
  refine dk.c (v := .slice a49 (os ++ [(x17.1, (a_q33, (((mget S (x17.1, x17.2)).getD ([], [])).1).length, c_q33), (a_q36, (((mget S (x17.1, x17.2)).getD ([], [])).2).length, c_q36))]).length cp50) rfl (by kernel_rfl) rfl rfl rfl rfl ?_
  refine dk.e (AWp.rowV (l := _) pok ?_)
  refine sq.c (v := .int .i64 (i + 1)) rfl rfl (okI (wrap_i64 (by omega) (by omega))) rfl ?_
  refine sq.c (v := .int .i64 (i + 1)) rfl rfl rfl rfl ?_
  refine sq.e ?_
  have D_ : FOwns _ (os ++ [(x17.1, (a_q33, (((mget S (x17.1, x17.2)).getD ([], [])).1).length, c_q33), (a_q36, (((mget S (x17.1, x17.2)).getD ([], [])).2).length, c_q36))]) (ps ++ [ownAt S x17]) := D.snoc ⟨rfl, R_q33, R_q36⟩
  refine ⟨_, _, rfl, (by omega), i + 1, os ++ [(x17.1, (a_q33, (((mget S (x17.1, x17.2)).getD ([], [])).1).length, c_q33), (a_q36, (((mget S (x17.1, x17.2)).getD ([], [])).2).length, c_q36))], ps ++ [ownAt S x17], a49, cp50, rfl, hs, hn, hf, hb_, hf_, hg_, hS, hq_, R_p, (D_), R_o, d_o_b, d_o_f, d_o_g, d_o_q_, (by omega), (by omega), (by rw [take_snoc hi0 hx_x17, List.map_append, ← hos]; rfl), (by simp [hop]), getV [undef, undef, undef, undef, undef, .pointer (some ⟨n9, 0, none⟩), .pointer (some ⟨n24, 0, none⟩), undef, undef, undef, undef, undef, undef, undef, undef, undef, undef, .bool true, .pointer (some ⟨b10, o11, none⟩), .agg #[.string (x17.1), .string (x17.2)], .pointer (some ⟨b, 0, none⟩), .pointer (some ⟨b, 0, none⟩), .pointer (some ⟨b, 1, none⟩), .map (some g), .agg #[.string (x17.1), .string (x17.2)], .agg #[.slice a1_g7_5 ((mget S (x17.1, x17.2)).getD ([], [])).1.length c1_g7_5, .slice a2_g7_5 ((mget S (x17.1, x17.2)).getD ([], [])).2.length c2_g7_5], .slice a_o (os.length) cp_o, .pointer (some ⟨n9, 0, none⟩), .string (x17.1), .pointer (some ⟨n24, 0, none⟩), .slice a1_g7_5 ((mget S (x17.1, x17.2)).getD ([], [])).1.length c1_g7_5, .slice a_q33 (((mget S (x17.1, x17.2)).getD ([], [])).1).length c_q33, .pointer (some ⟨n24, 1, none⟩), .slice a2_g7_5 ((mget S (x17.1, x17.2)).getD ([], [])).2.length c2_g7_5, .slice a_q36 (((mget S (x17.1, x17.2)).getD ([], [])).2).length c_q36, .agg #[.slice a_q33 (((mget S (x17.1, x17.2)).getD ([], [])).1).length c_q33, .slice a_q36 (((mget S (x17.1, x17.2)).getD ([], [])).2).length c_q36], .agg #[.string (x17.1), .slice a_q33 (((mget S (x17.1, x17.2)).getD ([], [])).1).length c_q33, .slice a_q36 (((mget S (x17.1, x17.2)).getD ([], [])).2).length c_q36], .slice (some ⟨n38, 0, none⟩) (1) (1), .slice a49 (os ++ [(x17.1, (a_q33, (((mget S (x17.1, x17.2)).getD ([], [])).1).length, c_q33), (a_q36, (((mget S (x17.1, x17.2)).getD ([], [])).2).length, c_q36))]).length cp50, .int .i64 (i + 1)], rfl⟩
 ·rw [decide_eq_false c5_0]
  refine AWp.condF rfl rfl ?_
  refine AWp.exit ?_
  refine AWp.seq (AWp.rowV (l := _) pok ?_)
  refine sq.c (v := .slice a_o (os.length) cp_o) rfl rfl rfl rfl ?_
  refine sq.c (v := .slice a_o (os.length) cp_o) rfl rfl rfl rfl ?_
  refine sq.e ?_
  refine AWp.ret ?_
  refine ⟨rfl, [.slice a_o (os.length) cp_o], rfl, .slice a_o (os.length) cp_o, rfl, hs, hn, ?_⟩
  rw [show i.toNat = (keysP G).length by omega, List.take_length] at hos
  subst hos
  refine ⟨os, R_o, ?_⟩
  rw [hS.keys] at D
  exact D
end Go.Proofs.YtkpaklofdkjinaaDoor
namespace Go.Abs
open Go
structure DJ (P : Program) (ops : Array Oper) (Q : APost) (K : List (Nat × Nat)) (plan : List Nat) (vs : List Value) (h : Heap) (n : Nat) : Prop where
  run : ∀ inv : Inv, (∀ x ∈ inv, ∀ h', (∀ p ∈ K, p.1 = x.1 → ∀ o, h.get p.2 = some o → h'.get p.2 = some o) → x.2 h') → drawW P (acall P) ops Q plan inv (frameV vs) h n
def KeepJ (ops : Array Oper) (i : Nat) (K : List (Nat × Nat)) (S : List Nat) : Prop := ∀ p ∈ K, dep ops i p.1 = true ∨ p.2 ∉ S
theorem keepJN {ops : Array Oper} {i : Nat} {S : List Nat} : KeepJ ops i [] S := fun p h => by cases h
theorem keepJD {ops : Array Oper} {i j b : Nat} {K : List (Nat × Nat)} {S : List Nat} (h : dep ops i j = true) (k : KeepJ ops i K S) : KeepJ ops i ((j, b) :: K) S := fun p hp => (List.mem_cons.1 hp).elim (fun e => .inl (by rw [e]; exact h)) (k p)
theorem keepJC {ops : Array Oper} {i j b : Nat} {K : List (Nat × Nat)} {S : List Nat} (h : b ∉ S) (k : KeepJ ops i K S) : KeepJ ops i ((j, b) :: K) S := fun p hp => (List.mem_cons.1 hp).elim (fun e => .inr (by rw [e]; exact h)) (k p)
section
variable {P : Program} {Q : APost} {vs vs' : List Value} {h : Heap} {n : Nat} {ops : Array Oper} {o : Oper} {d : Nat} {K : List (Nat × Nat)} {S S' : List Nat} {i : Nat} {plan : List Nat} {R : Value → Heap → Nat → Prop} {v : Value} {f : FuncId} {xs : List Value} {l : List Oper}
theorem AWp.anyJ (ok : POk P) {id : Nat} (plan : List Nat) (hsel : Region.noSelect ops = true) (hp : planOk P ops plan (Array.replicate ops.size false) = true) (hlen : plan.length = ops.size) (hpan : PanExt [] Q)
    (q : DJ P ops Q [] plan vs h n) : AWp P (.region id ops true) Q (frameV vs) h n :=
  AWp.draw_region ok plan hsel hp hlen (S := []) (avoids_nil ops) hpan (q.run [] (by simp))
theorem dj.e (q : Q .normal (frameV vs) h n) : DJ P ops Q K [] vs h n := ⟨fun _ _ => q⟩
theorem dj.c {v : Value} (ho : l[i]? = some o) (hk : kindOf P o = 1) (hw : wantedA l.toArray o (frameV vs) = true) (hok : okOper P.globals.size o = true) (hv : calmE P o (evalV vs) h = some v) (hd : o.dst = some d) [z : SetL vs d v vs']
    (k : DJ P l.toArray Q K plan vs' h n) : DJ P l.toArray Q K (i :: plan) vs h n := by
  refine ⟨fun inv hinv => ?_⟩
  have hz : vs' = setV vs o.dst v := by rw [hd]; exact z.eq.symm
  rw [hz] at k
  simp only [drawW, at_arr ho, hk, if_neg (show ¬ (1 : Nat) = 0 by decide), hw, if_true, frameV_eval, frameV_put]
  refine ⟨hok, ?_⟩
  rw [hv]
  exact k.run inv hinv
theorem dj.gB {v : Value} (b : Nat) (ho : l[i]? = some o) (hk : (kindOf P o != 0) = true) (hw : wantedA l.toArray o (frameV vs) = true) (hok : okOper P.globals.size o = true) (hv : ∀ h', (∀ o, h.get b = some o → h'.get b = some o) → calmE P o (evalV vs) h' = some v) (hd : o.dst = some d) [z : SetL vs d v vs']
    (k : DJ P l.toArray Q ((i, b) :: K) plan vs' h n) : DJ P l.toArray Q K (i :: plan) vs h n := by
  refine ⟨fun inv hinv => ?_⟩
  have hk' : kindOf P o ≠ 0 := by simpa using hk
  have hz : vs' = setV vs o.dst v := by rw [hd]; exact z.eq.symm
  rw [hz] at k
  simp only [drawW, at_arr ho, if_neg hk', hw, if_true, frameV_eval, frameV_put]
  refine ⟨hok, ?_⟩
  rw [hv h fun _ e => e]
  simp only
  have hinv' : ∀ x ∈ inv, ∀ h', (∀ p ∈ (i, b) :: K, p.1 = x.1 → ∀ o, h.get p.2 = some o → h'.get p.2 = some o) → x.2 h' := fun x hx h' hs => hinv x hx h' fun c hc => hs c (List.mem_cons_of_mem _ hc)
  split
  · exact k.run inv hinv'
  · refine k.run _ ?_
    intro x hx h' hs
    rcases List.mem_cons.1 hx with rfl | hx
    · exact hv h' (hs (i, b) (List.mem_cons_self ..) rfl)
    · exact hinv' x hx h' hs
theorem dj.skip' (hd : setV vs o.dst undef = vs') (ho : l[i]? = some o) (hw : wantedA l.toArray o (frameV vs) = false) (k : DJ P l.toArray Q K plan vs' h n) : DJ P l.toArray Q K (i :: plan) vs h n := by
  refine ⟨fun inv hinv => ?_⟩
  subst hd
  simp only [drawW, at_arr ho]
  split
  · simp only [opW, hw, Bool.false_eq_true, if_false, frameV_put]
    refine ⟨fun x hx => hinv x (List.mem_filter.1 hx).1 h (fun _ _ _ _ e => e), k.run _ fun x hx h' hs => hinv x (List.mem_filter.1 hx).1 h' hs⟩
  · simp only [hw, Bool.false_eq_true, if_false, frameV_put]
    exact k.run inv hinv
theorem dj.s (ho : l[i]? = some o) (hw : wantedA l.toArray o (frameV vs) = false) (hd : o.dst = some d) [z : SetL vs d undef vs'] (k : DJ P l.toArray Q K plan vs' h n) : DJ P l.toArray Q K (i :: plan) vs h n :=
  dj.skip' (by rw [hd]; exact z.eq) ho hw k
theorem dj.s0 (ho : l[i]? = some o) (hw : wantedA l.toArray o (frameV vs) = false) (hd : o.dst = none) (k : DJ P l.toArray Q K plan vs h n) : DJ P l.toArray Q K (i :: plan) vs h n :=
  dj.skip' (by rw [hd]; rfl) ho hw k
theorem keepJ_at {ops : Array Oper} {h1 : Heap} (hK : KeepJ ops i K S') (hs : SubBut h h1 S') {j : Nat} (hj : dep ops i j = false) : ∀ p ∈ K, p.1 = j → ∀ o, h.get p.2 = some o → h1.get p.2 = some o := fun p hp e o ho => by
  rcases hK p hp with q | q
  · rw [e, hj] at q; cases q
  · exact hs p.2 o q ho
theorem dj.op (ho : l[i]? = some o) (hk : kindOf P o = 0) (hw : wantedA l.toArray o (frameV vs) = true) (hok : okOper P.globals.size o = true) (q : Does P o (evalV vs) h n S' R) (hK : KeepJ l.toArray i K S')
    (k : ∀ v h2 n2, R v h2 n2 → SubBut h h2 S' → n ≤ n2 → Free h2 n2 → DJ P l.toArray Q K plan (setV vs o.dst v) h2 n2) : DJ P l.toArray Q K (i :: plan) vs h n := by
  obtain ⟨hc, x, v, h', n', hv, hx, hs, hn, hf, hr⟩ := q
  have k := k v h' n' hr hs hn hf
  refine ⟨fun inv hinv => ?_⟩
  simp only [drawW, at_arr ho, hk, if_true, opW, hw, frameV_eval]
  refine ⟨hok, ?_⟩
  rw [hc, hv]
  have hnd : ∀ x ∈ inv.filter (fun x => !dep l.toArray i x.1), dep l.toArray i x.1 = false := fun x hx => by simpa using (List.mem_filter.1 hx).2
  have k' := k.run (inv.filter fun x => !dep l.toArray i x.1) fun x hx h2 hs2 => hinv x (List.mem_filter.1 hx).1 h2 fun p hp e o ho => hs2 p hp e o (keepJ_at hK hs (hnd x hx) p hp e o ho)
  have hq : ∀ x ∈ inv.filter (fun x => !dep l.toArray i x.1), x.2 h' := fun x hx => hinv x (List.mem_filter.1 hx).1 h' (keepJ_at hK hs (hnd x hx))
  rcases hx with rfl | ⟨rfl, rfl⟩
  · simp only [resW, frameV_put]; exact ⟨hq, k'⟩
  · simp only [resW, frameV_put]; exact ⟨hq, k'⟩
theorem dj.k (ho : l[i]? = some o) (hk : kindOf P o = 0) (hw : wantedA l.toArray o (frameV vs) = true) (hc : CallsF P o (evalV vs) f xs) (c : Makes P f xs h n S' R) (hK : KeepJ l.toArray i K S')
    (k : ∀ v h2 n2, R v h2 n2 → SubBut h h2 S' → n ≤ n2 → Free h2 n2 → DJ P l.toArray Q K plan (setV vs o.dst v) h2 n2) : DJ P l.toArray Q K (i :: plan) vs h n := by
  obtain ⟨hok, hc1, hc2⟩ := hc
  refine ⟨fun inv hinv => ?_⟩
  simp only [drawW, at_arr ho, hk, if_true, opW, hw, frameV_eval]
  refine ⟨hok, ?_⟩
  rw [hc1, hc2]
  simp only [resW]
  refine ACall.mono c ?_
  rintro r h1 n1 _ hfr ⟨v, rfl, hs, hn, hr⟩
  refine ⟨h1, Heap.sub_refl _, ?_⟩
  have hnd : ∀ x ∈ inv.filter (fun x => !dep l.toArray i x.1), dep l.toArray i x.1 = false := fun x hx => by simpa using (List.mem_filter.1 hx).2
  simp only [frameV_put]
  exact ⟨fun x hx => hinv x (List.mem_filter.1 hx).1 h1 (keepJ_at hK hs (hnd x hx)), (k v h1 n1 hr hs hn hfr).run _ fun x hx h2 hs2 => hinv x (List.mem_filter.1 hx).1 h2 fun p hp e o ho => hs2 p hp e o (keepJ_at hK hs (hnd x hx) p hp e o ho)⟩
theorem dj.t {v : Value} (ho : l[i]? = some o) (hk : kindOf P o = 0) (hw : wantedA l.toArray o (frameV vs) = true) (hc : CallsF P o (evalV vs) f xs) (c : Free h n → Tells P f xs h n v) (hf : Free h n) (hd : o.dst = some d) [z : SetL vs d v vs']
    (k : ∀ n2, n ≤ n2 → Free h n2 → DJ P l.toArray Q K plan vs' h n2) : DJ P l.toArray Q K (i :: plan) vs h n := by
  refine dj.k ho hk hw hc (Tells.makes (S := []) (c hf)) (fun _ _ => .inr (by simp)) ?_
  rintro u h2 n2 ⟨rfl, rfl⟩ _ hn hf2
  rw [hd, show setV vs (some d) u = vs' from z.eq]
  exact k n2 hn hf2
theorem dj.w [z : SetL vs d v vs'] (k : DJ P ops Q K plan vs' h n) : DJ P ops Q K plan (setV vs (some d) v) h n := by
  rw [show setV vs (some d) v = vs' from z.eq]; exact k
theorem dj.w0 (k : DJ P ops Q K plan vs h n) : DJ P ops Q K plan (setV vs none v) h n := k
end
end Go.Abs
